import Derived.Test.YthmdbgdagnhheaaGreatDoorSh4
import Derived.Test.YthmdbgdagnhheaaGreatDoorSh5
import Derived.Test.YthmdbgdagnhheaaGreatDoorBy4
namespace Go.Hv
open Go.Ev

theorem runP_app (Y X:List Int) (s:S8):∀ j,64*j≤Y.length→runP (Y++X) s j=runP Y s j
 | 0,_=>rfl
 | j+1,h=>by
  have ih:=runP_app Y X s j (by omega)
  show mix (fun i=>(((Y++X).drop (64*j)).take 64).getD i 0) (runP (Y++X) s j)=mix (fun i=>((Y.drop (64*j)).take 64).getD i 0) (runP Y s j)
  rw [ih,List.drop_append_of_le_length (by omega),List.take_append_of_le_length (by rw [List.length_drop]; omega)]

theorem runP_add (Z:List Int) (s:S8) (q:Nat):∀ j,runP Z s (q+j)=runP (Z.drop (64*q)) (runP Z s q) j
 | 0=>rfl
 | j+1=>by
  have ih:=runP_add Z s q j
  show mix (fun i=>((Z.drop (64*(q+j))).take 64).getD i 0) (runP Z s (q+j))=mix (fun i=>(((Z.drop (64*q)).drop (64*j)).take 64).getD i 0) (runP (Z.drop (64*q)) (runP Z s q) j)
  rw [ih,List.drop_drop,show 64*q+64*j=64*(q+j) by omega]

def stateOf (Y:List Int):S8:=runP Y begun8 (Y.length/64)
def restOf (Y:List Int):List Int:=Y.drop (64*(Y.length/64))
theorem restOf_len (Y:List Int):(restOf Y).length=Y.length%64:=by
 unfold restOf
 rw [List.length_drop]
 omega

def shaD (Y:List Int):List Int:=dgl (finS (stateOf Y) (restOf Y) Y.length)
theorem shaD_len (Y:List Int):(shaD Y).length=32:=dgl_len _

theorem state_nil {Y X:List Int} (h:Y.length%64=0):runP X (stateOf Y) (X.length/64)=stateOf (Y++X)∧X.drop (64*(X.length/64))=restOf (Y++X):=by
 have hq:Y.length=64*(Y.length/64):=by omega
 have hl:(Y++X).length/64=Y.length/64+X.length/64:=by rw [List.length_append]; omega
 have hd:(Y++X).drop (64*(Y.length/64))=X:=by rw [← hq]; exact List.drop_left
 unfold stateOf restOf
 rw [hl,runP_add,hd,runP_app Y X begun8 _ (by omega)]
 refine ⟨rfl,?_⟩
 rw [show 64*(Y.length/64+X.length/64)=64*(Y.length/64)+64*(X.length/64) by omega,← List.drop_drop,hd]

theorem state_less {Y X:List Int} (h:Y.length%64+X.length<64):stateOf (Y++X)=stateOf Y∧restOf (Y++X)=restOf Y++X:=by
 have hl:(Y++X).length/64=Y.length/64:=by rw [List.length_append]; omega
 unfold stateOf restOf
 rw [hl,runP_app Y X begun8 _ (by omega)]
 exact ⟨rfl,List.drop_append_of_le_length (by omega)⟩

theorem state_more {Y X:List Int} (h:64≤Y.length%64+X.length) (X':List Int) (hX':X'=X.drop (64-Y.length%64)) :
  runP X' (runP (restOf Y++X) (stateOf Y) 1) (X'.length/64)=stateOf (Y++X)∧X'.drop (64*(X'.length/64))=restOf (Y++X)∧X'.length%64=(Y++X).length%64:=by
 have hr:=restOf_len Y
 have hXl:X'.length=X.length-(64-Y.length%64):=by rw [hX',List.length_drop]
 have hl:(Y++X).length/64=Y.length/64+(1+X'.length/64):=by rw [List.length_append]; omega
 have hd:(Y++X).drop (64*(Y.length/64))=restOf Y++X:=List.drop_append_of_le_length (by omega)
 have hd2:(restOf Y++X).drop (64*1)=X':=by
  rw [hX',List.drop_append,hr,List.drop_eq_nil_of_le (by rw [hr]; omega),List.nil_append]
 refine ⟨?_,?_,by rw [List.length_append]; omega⟩
 ·unfold stateOf
  rw [hl,runP_add,hd,runP_app Y X begun8 _ (by omega),runP_add,hd2]
 ·unfold restOf
  rw [hl,show 64*(Y.length/64+(1+X'.length/64))=64*(Y.length/64)+(64*1+64*(X'.length/64)) by omega,← List.drop_drop,hd,← List.drop_drop,hd2]

theorem lent_one {c:Con} {B:Base} {bs:Mem} {b i:Nat} {x:Blk} {s:Sc} (hL:Lent c B bs) (hx:nth bs b=some x) (hs:(extL c x.cells)[i]?=some s) (hc:s.closed 0=true) :
  ERead B false 1 ((⟨c.ι b,0,none⟩:Addr).add i) (.one s):=by
 obtain ⟨junk,h⟩:=hL b x hx
 have hlt:=(List.getElem?_eq_some_iff.1 hs).1
 refine ⟨s,?_,hc,rfl⟩
 rw [addr_off,Nat.zero_add]
 refine ⟨_,_,_,h,rfl,?_⟩
 simp only [List.getElem?_toArray]
 rw [List.getElem?_append_left (by simpa using hlt),List.getElem?_map,hs]
 rfl

theorem lent_agg {c:Con} {B:Base} {bs:Mem} {b o size:Nat} {x:Blk} {l:List Sc} (hL:Lent c B bs) (hx:nth bs b=some x) (hlen:l.length=size) (hc:closedL 0 l=true) (hs:∀ i s,l[i]?=some s→(extL c x.cells)[o+i]?=some s) :
  ERead B true size ((⟨c.ι b,0,none⟩:Addr).add o) (.agg l):=by
 obtain ⟨junk,h⟩:=hL b x hx
 refine ⟨l,hlen,fun i s hi=>?_,hc,rfl⟩
 have hg:=hs i s hi
 have hlt:=(List.getElem?_eq_some_iff.1 hg).1
 rw [addr_off,Nat.zero_add,addr_off]
 refine ⟨_,_,_,h,rfl,?_⟩
 simp only [List.getElem?_toArray]
 rw [List.getElem?_append_left (by simpa using hlt),List.getElem?_map,hg]
 rfl

theorem sum_lent {c:Con} {B:Base} {bs:Mem} {b n t cap:Nat} {s:S8} {r r':Sc} {R:List Int} (hTb:Tab B) (hL:Lent c B bs) (hx:nth bs b=some ⟨hcells s r n,t,0,false⟩) (hr:Sc.ext c r=r') {q:Option SP} (hr':r'=.slice q R.length cap)
  (hs:Sl B 1 (.one r') (ones (u8s R))) (hR:R.length<64):HC PG B f_sha_Hash_Sum [.one (.ptr (some (.ext ⟨c.ι b,0,none⟩)))] fun v _=>v=.agg (u8s (dgl (finS s R n))):=by
 subst hr'
 refine sum_hc hTb (lent_agg hL hx rfl rfl fun i x hi=>?_) (lent_one hL hx (i:=8) ?_ (by have:=hs.stable.1 0; exact this)) (lent_one hL hx (i:=9) rfl rfl) hs hR
 ·have hi8:i<8:=(List.getElem?_eq_some_iff.1 hi).1
  rw [Nat.zero_add]
  have:∀ i,i<8→i=0∨i=1∨i=2∨i=3∨i=4∨i=5∨i=6∨i=7:=by omega
  rcases this i hi8 with rfl | rfl | rfl | rfl | rfl | rfl | rfl | rfl<;>exact hi
 ·rw [← hr]
  rfl

theorem WrK_ne (X:List Int) (s:S8) (n:Nat):∃ v m',WrK X s n v m':=by
 by_cases h:X.length%64=0
 ·exact ⟨_,_,rfl,.inl ⟨h,0,B0,rfl⟩⟩
 ·exact ⟨_,_,rfl,.inr ⟨h,0,X.length%64,B0,Nat.le_refl _,rfl⟩⟩

theorem WrKL_ne (X:List Int) (s:S8) (n:Nat):∃ v m',WrKL X s n v m':=by
 by_cases h:X.length%64=0
 ·exact ⟨_,_,rfl,.inl ⟨h,0,B0,rfl⟩⟩
 ·exact ⟨_,_,rfl,.inr ⟨h,0,X.length%64,B0,Nat.le_refl _,rfl⟩⟩

theorem WrK2_ne (R X:List Int) (s:S8) (n:Nat):∃ v m',WrK2 R X s n v m':=by
 by_cases h:R.length+X.length<64
 ·exact ⟨_,_,.inl ⟨h,rfl,0,R.length+X.length,B0,Nat.le_refl _,rfl⟩⟩
 ·obtain ⟨v,m',hw⟩:=WrKL_ne (X.drop (64-R.length)) (runP (R++X) s 1) n
  exact ⟨v,m',.inr ⟨by omega,hw⟩⟩

theorem one_ms {b:Nat} {bs:Mem} {x:Blk} (hx:nth bs b=some x) (hc:∀ c ρ F,rnL F c ρ x.cells=x.cells):∀ (c:Con) (i b':Nat),[b][i]?=some b'→nth [some x] i=rnB (keepF [b]) c (inR [b]) (nth bs b'):=fun c i b' h=>by
 match i,h with
 | 0,h=>
  simp only [List.getElem?_cons_zero,Option.some.injEq] at h
  subst h
  rw [hx]
  simp only [rnB,nth,hc]
 | i+1,h=>simp at h

theorem hcells_rn (s:S8) (n:Nat) (F:Nat→Bool) (c:Con) (ρ:Ren):rnL F c ρ (hcells s (.slice none 0 0) n)=hcells s (.slice none 0 0) n:=rfl

theorem Sl.rn' {B:Base} {es:Nat} {s:TV} {L:List (List Sc)} (h:Sl B es s L) (F:Nat→Bool) (c:Con) (ρ:Ren):TV.rn F c ρ s=s:=by
 obtain ⟨p,cap,rfl,h2,h3,h4⟩:=h
 match p,h4 with
 | none,_=>rfl
 | some (.ext a),_=>rfl

theorem sl_none {B:Base}:Sl B 1 (.one (.slice none 0 0)) (ones (u8s [])):=⟨none,0,rfl,⟨Nat.le_refl _,by simp [ones]⟩,fun x hx=>(by cases hx),rfl,rfl⟩

theorem of_ok:∀ A,okCode (HHo A fun _=>none) F_sha_Of.ntmps (bodyOf F_sha_Of)=true:=fun _=>by kernel_rfl

set_option maxRecDepth 100000 in
theorem of_hc {A:Base} {p:Option SP} {cap:Nat} {X:List Int} (hTb:Tab A) (hs:Sl A 1 (.one (.slice p X.length cap)) (ones (u8s X))) (hX:X.length≤140737488360000) :
  HC PG A f_sha_Of [.one (.slice p X.length cap)] fun v _=>v=.agg (u8s (shaD X)):=by
 refine hc_start (fun _=>none) h_sha_Of rfl (by kernel_rfl) (of_ok A) (closedTs_iff.2 fun v hv=>by
  simp only [List.mem_singleton] at hv
  subst hv
  exact hs.stable.1 0) ?_
 have hs0:stateOf []=begun8:=rfl
 refine swp_cut fun K hK hR _=>?_
 conv=>whnf
 refine hK _ _ ?_
 clear hK hR
 refine swp_cut fun K hK hR _=>?_
 refine aops_step fun T S hT hS=>?_
 conv=>whnf
 refine ⟨_,CALL.lend (ms:=[]) [] (by simp) (by simp) rfl (new_call (A:=A)).1 (fun _ i b h=>by simp at h) (fun c B _ _=>new_call),⟨_,_,_,_,⟨rfl,0,rfl⟩,rfl,rfl⟩,?_⟩
 rintro v m' ⟨v0,ms',⟨rfl,t,rfl⟩,rfl,rfl⟩
 show T (.one (.ptr (some (.loc 1 0)))) ⟨[some ⟨List.replicate 32 (.int .u8 0),_,0,false⟩,some ⟨hcells begun8 (.slice none 0 0) 0,t,0,false⟩],_⟩
 refine hT _ _ ?_
 refine aops_step fun T S hT hS=>?_
 conv=>whnf
 refine hT _ _ ?_
 refine aops_end ?_
 refine hK _ _ ?_
 clear hK hR
 refine swp_cut fun K hK hR _=>?_
 iterate 2 (refine aops_step fun T S hT hS=>?_; (conv=>whnf); refine hT _ _ ?_)
 refine aops_step fun T S hT hS=>?_
 conv=>whnf
 refine ⟨_,CALL.lend (ms:=[some ⟨hcells begun8 (.slice none 0 0) 0,t,0,false⟩]) [1] (by simp) (fun b hb=>by
   simp only [List.mem_singleton] at hb
   subst hb
   exact Nat.le_refl 2) rfl (write_nil (t:=0) hTb hs (n:=0) (s:=begun8) (by omega) hX).1 (one_ms rfl fun c ρ F=>hcells_rn _ _ F c ρ) (fun c B hB hF=>by
   show CALL PG B f_sha_Hash_Write [.one (.ptr (some (.loc 0 0))),TV.rn (keepF [1]) c (inR [1]) (.one (.slice p X.length cap))] _ _
   rw [hs.rn']
   exact write_nil (ERead_le (fun r o h=>hB r o (.inl h)) hTb) (hs.mono (fun r o h=>hB r o (.inl h))) (by omega) hX),(by
   obtain ⟨v,m',h⟩:=WrK_ne X begun8 (0+X.length)
   exact ⟨_,_,v,m',h,rfl,rfl⟩),?_⟩
 rintro v m' ⟨v0,ms',⟨rfl,hcase⟩,rfl,rfl⟩
 rcases hcase with ⟨h0,t',N',rfl⟩ | ⟨h0,t',cap',N',hcap',rfl⟩
 ·show T (.tup []) ⟨[some ⟨List.replicate 32 (.int .u8 0),_,0,false⟩,some ⟨hcells (stateOf X) (.slice none 0 0) (0+X.length),t',0,false⟩],_⟩
  rw [Nat.zero_add]
  have hrest:restOf X=[]:=List.eq_nil_of_length_eq_zero (by rw [restOf_len]; exact h0)
  refine hT _ _ ?_
  refine aops_end ?_
  refine hK _ _ ?_
  clear hK hR
  refine swp_cut fun K hK hR _=>?_
  refine aops_step fun T S hT hS=>?_
  conv=>whnf
  refine hT _ _ ?_
  refine aops_step fun T S hT hS=>?_
  conv=>whnf
  refine ⟨fun v _=>v=.agg (u8s (shaD X)),fun c B hB hL=>by
   have:=sum_lent (b:=1) (ERead_le (fun r o h=>hB r o (.inl h)) hTb) hL rfl (r:=.slice none 0 0) rfl (q:=none) (cap:=0) rfl sl_none (by decide)
   rw [← hrest] at this
   exact this,⟨.agg (u8s (shaD X)),B0,ints_cl .u8 _ 0,rfl⟩,?_⟩
  rintro v N1 _ rfl N2 _
  refine hT _ _ ?_
  refine aops_step fun T S hT hS=>?_
  conv=>whnf
  refine hT _ _ ?_
  refine aops_end ?_
  refine hK _ _ ?_
  clear hK hR
  conv=>whnf
  intro c N2 _ _
  rfl
 ·show T (.tup []) ⟨[some ⟨List.replicate 32 (.int .u8 0),_,0,false⟩,some ⟨hcells (stateOf X) (.slice (some (.loc 2 0)) (X.length%64) cap') (0+X.length),t',0,false⟩,some ⟨rnL F0 Con0 (outR [1] 2) (u8s (restOf X)),t_uint8,cap'*1,true⟩],_⟩
  rw [Nat.zero_add,rnL_id (ints_cl .u8 _ 0)]
  refine hT _ _ ?_
  refine aops_end ?_
  refine hK _ _ ?_
  clear hK hR
  refine swp_cut fun K hK hR _=>?_
  refine aops_step fun T S hT hS=>?_
  conv=>whnf
  refine hT _ _ ?_
  refine aops_step fun T S hT hS=>?_
  conv=>whnf
  have hrl:=restOf_len X
  rw [← hrl] at hcap' ⊢
  refine ⟨fun v _=>v=.agg (u8s (shaD X)),fun c B hB hL=>sum_lent (b:=1) (ERead_le (fun r o h=>hB r o (.inl h)) hTb) hL rfl (r:=.slice (some (.loc 2 0)) (restOf X).length cap') rfl (q:=some (.ext ⟨c.ι 2,0,none⟩)) (cap:=cap') rfl
   (sl_lent (b:=2) (o:=0) (L:=ones (u8s (restOf X))) (post:=[]) hL rfl (ints_cl _ _ 0) (by rw [ones_flat]; exact (List.append_nil _).symm) (by rw [u8s_len]) (by rw [u8s_len]; exact hcap') (by rw [u8s_len]; omega) (ones_es _)) (by omega),⟨.agg (u8s (shaD X)),B0,ints_cl .u8 _ 0,rfl⟩,?_⟩
  rintro v N1 _ rfl N2 _
  refine hT _ _ ?_
  refine aops_step fun T S hT hS=>?_
  conv=>whnf
  refine hT _ _ ?_
  refine aops_end ?_
  refine hK _ _ ?_
  clear hK hR
  conv=>whnf
  intro c N2 _ _
  rfl

end Go.Hv

namespace Go.Hv
open Go.Ev

def TxE (i:Nat) (sl:TV):Env:=[(4,.one (.int .i64 (i:Int))),(3,sl),(1,.one (.ptr (some (.loc 0 0))))]

def TxI (D:List Int) (k:Nat) (e:Env) (m:HM):Prop:=
 ∃ (i t0:Nat) (N:Base),i≤32∧k=32-i ∧
  ((i=0∧e=TxE i (.one (.slice none 0 0))∧m=⟨[some ⟨u8s D,t0,0,false⟩],N⟩) ∨
   (0<i∧∃ cap,i≤cap∧e=TxE i (.one (.slice (some (.loc 1 0)) i cap))∧m=⟨[some ⟨u8s D,t0,0,false⟩,some ⟨u8s (D.take i),t_uint8,cap*1,true⟩],N⟩))

theorem u8_blkR (X:List Int) (t g:Nat) (gr:Bool) (F:Nat→Bool) (c:Con) (ρ:Ren):(⟨u8s X,t,g,gr⟩:Blk)=⟨rnL F c ρ (u8s X),t,g,gr⟩:=by rw [rnL_id (ints_cl _ _ 0)]

theorem u8_take (D:List Int) {i:Nat} (h:i<D.length):takeAt (u8s D) (0+i*1) 1=some [.int .u8 D[i]]:=by
 rw [take1 (by rw [List.length_map]; exact h),List.getElem_map]

theorem u8_snoc (D:List Int) {i:Nat} (h:i<D.length):u8s (D.take i)++[.int .u8 D[i]]=u8s (D.take (i+1)):=by
 rw [show [Sc.int .u8 D[i]]=u8s [D[i]] from rfl,u8s_app,List.take_succ_eq_append_getElem h]

set_option maxRecDepth 100000 in
theorem text_hco {A:Base} {D:List Int} (hD:D.length=32):HCO PG A f_ref01_Text [.agg (u8s D)] fun n cap k _=>n=32∧32≤cap∧k=⟨u8s D,t_uint8,cap*1,true⟩:=by
 refine hco_start (fun _=>none) h_ref01_Text rfl (by kernel_rfl) (by kernel_rfl) (closedTs_iff.2 fun v hv=>by
  simp only [List.mem_singleton] at hv
  subst hv
  exact ints_cl _ _ 0) ?_
 refine swp_cut fun K hK hR _=>?_
 conv=>whnf
 refine hK _ _ ?_
 clear hK hR
 refine swp_cut fun K hK hR _=>?_
 conv=>whnf
 refine hK _ _ ?_
 clear hK hR
 refine swp_cut fun K hK hR _=>?_
 refine swp_cut fun K2 hK2 hR2 _=>?_
 conv=>whnf
 refine hK2 _ _ ?_
 clear hK2 hR2
 conv=>whnf
 refine .inr (loop_invR (gH A _) (TxI D) ?_ ?_)
 ·intro k' e' m' hI
  obtain ⟨i,t0,N,hi32,rfl,⟨hi0,rfl,rfl⟩ | ⟨hi0,cap,hcap,rfl,rfl⟩⟩:=hI
  ·conv=>whnf
   cases hlt:decide ((i:Int)<32) with
   | true=>
    have hi:i<32:=by have:=of_decide_eq_true hlt; omega
    have hiD:i<D.length:=by omega
    have hsn:=u8_snoc D hiD
    have htk:=u8_take D hiD
    generalize D[i]=d at *
    show swpC _ (Code.seq _ _) _ _ _
    refine swp_cut fun K4 hK4 hR4 _=>?_
    refine swp_block ?_
    iterate 2 (refine aops_step fun T S hT hS=>?_; (conv=>whnf); refine hT _ _ ?_)
    refine aops_step fun T S hT hS=>?_
    conv=>whnf
    rw [dec_idx (n:=32) hi]
    conv=>whnf
    refine hT _ _ ?_
    refine aops_step fun T S hT hS=>?_
    conv=>whnf
    conv in (takeAt _ _ _)=>change takeAt (u8s D) (0+i*1) 1; rw [htk]
    conv=>whnf
    refine hT _ _ ?_
    refine aops_step fun T S hT hS=>?_
    conv=>whnf
    refine hT _ _ ?_
    refine aops_step fun T S hT hS=>?_
    conv=>whnf
    refine ⟨[.int .u8 d],rfl,rfl,rfl,?_⟩
    conv=>whnf
    refine ⟨⟨by omega,by omega⟩,by omega,fun cap' hcap'=>?_⟩
    conv=>whnf
    refine hT _ _ ?_
    refine aops_step fun T S hT hS=>?_
    conv=>whnf
    refine hT _ _ ?_
    refine aops_end ?_
    refine hK4 _ _ ?_
    clear hK4 hR4
    conv=>whnf
    have hblk:∀ (c:Con) (ρ:Ren),(⟨u8s (D.take (i+1)),t_uint8,cap'*1,true⟩:Blk)=⟨rnL F0 c ρ [.int .u8 d],t_uint8,cap'*1,true⟩:=fun c ρ=>by
     rw [← hsn,hi0]
     rfl
    have hsl:∀ c,TV.one (.slice (some (.loc 1 0)) (i+1) cap')=TV.rn F0 c (tp 1 2) (.one (.slice (some (.loc 2 0)) 1 cap')):=fun c=>by rw [hi0]; rfl
    refine ⟨32-(i+1),F0,tp 1 2,by omega,tp_ok (by exact Nat.le_of_ble_eq_true rfl) (by exact Nat.le_of_ble_eq_true rfl),fun c N1 _ _=>⟨_,_,wkR_of (by (repeat' apply And.intro)<;>first | trivial | exact ⟨_,rfl,tv_inc (n:=32) hi (by omega),rfl⟩ | exact ⟨_,rfl,hsl c,rfl⟩ | exact ⟨_,rfl,rfl,rfl⟩) (by (repeat' apply And.intro)<;>first | trivial | rfl | exact ⟨_,rfl,hblk c _,ints_cl _ _ _⟩ | exact ⟨_,rfl,u8_blkR _ _ _ _ _ _ _,ints_cl _ _ _⟩) (by exact Nat.le_of_ble_eq_true rfl),⟨i+1,t0,N1,hi,rfl,.inr ⟨by omega,cap',by omega,rfl,rfl⟩⟩⟩⟩
   | false=>exact absurd (of_decide_eq_false hlt) (by omega)
  ·conv=>whnf
   cases hlt:decide ((i:Int)<32) with
   | true=>
    have hi:i<32:=by have:=of_decide_eq_true hlt; omega
    have hiD:i<D.length:=by omega
    have hsn:=u8_snoc D hiD
    have htk:=u8_take D hiD
    generalize D[i]=d at *
    show swpC _ (Code.seq _ _) _ _ _
    refine swp_cut fun K4 hK4 hR4 _=>?_
    refine swp_block ?_
    iterate 2 (refine aops_step fun T S hT hS=>?_; (conv=>whnf); refine hT _ _ ?_)
    refine aops_step fun T S hT hS=>?_
    conv=>whnf
    rw [dec_idx (n:=32) hi]
    conv=>whnf
    refine hT _ _ ?_
    refine aops_step fun T S hT hS=>?_
    conv=>whnf
    conv in (takeAt _ _ _)=>change takeAt (u8s D) (0+i*1) 1; rw [htk]
    conv=>whnf
    refine hT _ _ ?_
    refine aops_step fun T S hT hS=>?_
    conv=>whnf
    refine hT _ _ ?_
    refine aops_step fun T S hT hS=>?_
    conv=>whnf
    refine ⟨[.int .u8 d],rfl,rfl,rfl,?_⟩
    conv=>whnf
    refine ⟨by rw [List.length_map,List.length_take]; omega,hcap,rfl,rfl,⟨by omega,by omega⟩,fun cap' hcap'=>?_⟩
    conv=>whnf
    refine hT _ _ ?_
    refine aops_step fun T S hT hS=>?_
    conv=>whnf
    refine hT _ _ ?_
    refine aops_end ?_
    refine hK4 _ _ ?_
    clear hK4 hR4
    conv=>whnf
    have hblk:∀ (c:Con) (ρ:Ren),(⟨u8s (D.take (i+1)),t_uint8,cap'*1,true⟩:Blk)=⟨rnL F0 c ρ (u8s (D.take i)++[.int .u8 d]),t_uint8,cap'*1,true⟩:=fun c ρ=>by
     rw [hsn,rnL_id (ints_cl _ _ 0)]
    refine ⟨32-(i+1),F0,tp 1 3,by omega,tp_ok (by exact Nat.le_of_ble_eq_true rfl) (by exact Nat.le_of_ble_eq_true rfl),fun c N1 _ _=>⟨_,_,wkR_of (by (repeat' apply And.intro)<;>first | trivial | exact ⟨_,rfl,tv_inc (n:=32) hi (by omega),rfl⟩ | exact ⟨_,rfl,rfl,rfl⟩) (by (repeat' apply And.intro)<;>first | trivial | rfl | exact ⟨_,rfl,hblk c _,ints_cl _ _ _⟩ | exact ⟨_,rfl,u8_blkR _ _ _ _ _ _ _,ints_cl _ _ _⟩) (by exact Nat.le_of_ble_eq_true rfl),⟨i+1,t0,N1,hi,rfl,.inr ⟨by omega,cap',hcap',rfl,rfl⟩⟩⟩⟩
   | false=>
    obtain rfl:i=32:=by have:=of_decide_eq_false hlt; omega
    have ht:D.take 32=D:=List.take_of_length_le (by omega)
    conv=>whnf
    refine hK _ _ ?_
    clear hK hR
    rw [ht]
    conv=>whnf
    exact ⟨_,_,_,_,rfl,rfl,ints_cl _ _ 0,rfl,hcap,rfl⟩
 ·refine ⟨32,F0,ren0,ren0_ok _,fun c N1 _ _=>⟨_,_,wkR_of (by (repeat' apply And.intro)<;>first | trivial | exact ⟨_,rfl,rfl,rfl⟩) (by (repeat' apply And.intro)<;>first | trivial | rfl | exact ⟨_,rfl,u8_blkR _ _ _ _ _ _ _,ints_cl _ _ _⟩) (by exact Nat.le_of_ble_eq_true rfl),⟨0,_,N1,by omega,rfl,.inl ⟨rfl,rfl,rfl⟩⟩⟩⟩

theorem zp_lt {n z:Nat} (hz:z≤zc (n%64)) (h:(((n+1+z:Nat):Int).tmod 64 != 56)=true):z<zc (n%64):=by
 refine zc_lt (by omega) hz ?_
 have e:(((n%64+1+z:Nat):Int).tmod 64)=(((n+1+z:Nat):Int).tmod 64):=by
  show (((n%64+1+z)%64:Nat):Int)=(((n+1+z)%64:Nat):Int)
  rw [show (n%64+1+z)%64=(n+1+z)%64 by omega]
 rw [e]; exact h
theorem zp_eq {n z:Nat} (hz:z≤zc (n%64)) (h:(((n+1+z:Nat):Int).tmod 64 != 56)=false):z=zc (n%64):=by
 refine zc_eq (by omega) hz ?_
 have e:(((n%64+1+z:Nat):Int).tmod 64)=(((n+1+z:Nat):Int).tmod 64):=by
  show (((n%64+1+z)%64:Nat):Int)=(((n+1+z)%64:Nat):Int)
  rw [show (n%64+1+z)%64=(n+1+z)%64 by omega]
 rw [e]; exact h

def P2 (X:List Int) (i:Nat):List Int:=C1 X (zc (X.length%64))++(tl8 X.length).take i
def padL (X:List Int):List Int:=C1 X (zc (X.length%64))++tl8 X.length
theorem P2_len (X:List Int) {i:Nat} (h:i≤8):(P2 X i).length=X.length+1+zc (X.length%64)+i:=by
 unfold P2
 rw [List.length_append,C1_len,List.length_take,tl8_len]
 omega
theorem P2_succ (X:List Int) {i:Nat} (h:i<8):P2 X i++[bt X.length i]=P2 X (i+1):=by
 unfold P2
 have hl:i<(tl8 X.length).length:=by rw [tl8_len]; exact h
 rw [List.append_assoc,List.take_succ_eq_append_getElem hl]
 congr 2
 simp [tl8]
theorem P2_8 (X:List Int):P2 X 8=padL X:=by
 unfold P2 padL
 rw [List.take_of_length_le (by rw [tl8_len]; exact Nat.le_refl _)]
theorem padL_len (X:List Int):(padL X).length=X.length+1+zc (X.length%64)+8:=by
 rw [← P2_8,P2_len X (Nat.le_refl _)]
theorem padL_64 (X:List Int):(padL X).length%64=0:=by
 rw [padL_len]
 unfold zc
 omega

theorem pad_sha (X:List Int):dgl (runP (padL X) begun8 ((padL X).length/64))=shaD X:=by
 have h1:padL X=X.take (64*(X.length/64))++last (restOf X) X.length:=by
  unfold padL last C1
  have e:X.take (64*(X.length/64))++restOf X=X:=by unfold restOf; exact List.take_append_drop _ _
  rw [restOf_len]
  simp only [← List.append_assoc]
  rw [e]
 have hl:(X.take (64*(X.length/64))).length=64*(X.length/64):=by rw [List.length_take]; omega
 have hd:(padL X).drop (64*(X.length/64))=last (restOf X) X.length:=by
  rw [h1,List.drop_append_of_le_length (by omega),List.drop_eq_nil_of_le (by omega),List.nil_append]
 have hq:(padL X).length/64=X.length/64+(last (restOf X) X.length).length/64:=by
  rw [h1,List.length_append,hl]
  omega
 have hr:runP (padL X) begun8 (X.length/64)=runP X begun8 (X.length/64):=by
  rw [h1,runP_app _ _ _ _ (by omega)]
  have:=runP_app (X.take (64*(X.length/64))) (X.drop (64*(X.length/64))) begun8 (X.length/64) (by omega)
  rw [List.take_append_drop] at this
  exact this.symm
 unfold shaD finS stateOf
 rw [hq,runP_add,hd,hr]

def PdI1_3 (q:TV) (X:List Int) (k:Nat) (e:Env) (m:HM):Prop:=
 ∃ (z cap:Nat) (N:Base),z≤zc (X.length%64)∧k=zc (X.length%64)-z∧X.length+1+z≤cap ∧
  ((z=0∧e=[(3,.one (.slice (some (.loc 3 0)) (X.length+1+z) cap)),(0,q)]∧m=⟨[none,none,none,some ⟨u8s (C1 X z),t_uint8,cap*1,true⟩],N⟩)∨(0<z∧e=[(3,.one (.slice (some (.loc 4 0)) (X.length+1+z) cap)),(0,q)]∧m=⟨[none,none,none,none,some ⟨u8s (C1 X z),t_uint8,cap*1,true⟩],N⟩))

def PdI2_3 (X:List Int) (k:Nat) (e:Env) (m:HM):Prop:=
 ∃ (i cap:Nat) (N:Base),i≤8∧k=8-i∧X.length+1+zc (X.length%64)+i≤cap ∧
  ((i=0∧e=[(5,.one (.int .i64 (i:Int))),(4,.one (.int .u64 (8*((X.length:Int)%18446744073709551616)%18446744073709551616))),(3,.one (.slice (some (.loc 3 0)) (X.length+1+zc (X.length%64)+i) cap))]∧m=⟨[none,none,none,some ⟨u8s (P2 X i),t_uint8,cap*1,true⟩],N⟩)∨(0<i∧e=[(5,.one (.int .i64 (i:Int))),(4,.one (.int .u64 (8*((X.length:Int)%18446744073709551616)%18446744073709551616))),(3,.one (.slice (some (.loc 4 0)) (X.length+1+zc (X.length%64)+i) cap))]∧m=⟨[none,none,none,none,some ⟨u8s (P2 X i),t_uint8,cap*1,true⟩],N⟩))

def PdI2_4 (X:List Int) (k:Nat) (e:Env) (m:HM):Prop:=
 ∃ (i cap:Nat) (N:Base),i≤8∧k=8-i∧X.length+1+zc (X.length%64)+i≤cap ∧
  ((i=0∧e=[(5,.one (.int .i64 (i:Int))),(4,.one (.int .u64 (8*((X.length:Int)%18446744073709551616)%18446744073709551616))),(3,.one (.slice (some (.loc 4 0)) (X.length+1+zc (X.length%64)+i) cap))]∧m=⟨[none,none,none,none,some ⟨u8s (P2 X i),t_uint8,cap*1,true⟩],N⟩)∨(0<i∧e=[(5,.one (.int .i64 (i:Int))),(4,.one (.int .u64 (8*((X.length:Int)%18446744073709551616)%18446744073709551616))),(3,.one (.slice (some (.loc 5 0)) (X.length+1+zc (X.length%64)+i) cap))]∧m=⟨[none,none,none,none,none,some ⟨u8s (P2 X i),t_uint8,cap*1,true⟩],N⟩))

set_option maxHeartbeats 1000000 in
set_option maxRecDepth 100000 in
theorem padded_hco {A:Base} {q:TV} {X:List Int} (hs:Sl A 1 q (ones (u8s X))) (hX:X.length≤140737488352000):HCO PG A f_ref01_Padded [q] fun n cap k _=>n=(padL X).length∧(padL X).length≤cap∧k=⟨u8s (padL X),t_uint8,cap*1,true⟩:=by
 obtain ⟨p,c0,rfl,g1,g2,g3⟩:=id hs
 have hlX:=u8s_len X
 rw [hlX] at hs g1 ⊢
 have hblk20:∀ (c:Con) (ρ:Ren) (g:Nat),(⟨u8s (P2 X 0),t_uint8,g*1,true⟩:Blk)=⟨rnL F0 c ρ (u8s (C1 X (zc (X.length%64)))),t_uint8,g*1,true⟩:=fun c ρ g=>by
  rw [rnL_id (ints_cl _ _ 0)]
  unfold P2
  rw [List.take_zero,List.append_nil]
 have hblk10:∀ (c:Con) (ρ:Ren) (g:Nat),(⟨u8s (C1 X 0),t_uint8,g*1,true⟩:Blk)=⟨rnL F0 c ρ ([]++u8s X++[.int .u8 128]),t_uint8,g*1,true⟩:=fun c ρ g=>by
  rw [List.nil_append,show [Sc.int .u8 128]=u8s [128] from rfl,u8s_app,rnL_id (ints_cl _ _ 0)]
  unfold C1
  rw [List.replicate_zero,List.append_nil]
 refine hco_start (fun _=>none) h_ref01_Padded rfl (by kernel_rfl) (by kernel_rfl) (closedTs_iff.2 fun v hv=>by
  simp only [List.mem_singleton] at hv
  subst hv
  exact hs.stable.1 0) ?_
 refine swp_cut fun K hK hR _=>?_
 conv=>whnf
 refine hK _ _ ?_
 clear hK hR
 refine swp_cut fun K hK hR _=>?_
 iterate 2 (refine aops_step fun T S hT hS=>?_; (conv=>whnf); refine hT _ _ ?_)
 refine aops_step fun T S hT hS=>?_
 conv=>whnf
 refine ⟨u8s X,hs.has (by rw [List.length_map]),by rw [List.length_map,Nat.mul_one],rfl,?_⟩
 conv=>whnf
 refine ⟨rfl,Nat.le_refl _,rfl,rfl,⟨by omega,by omega⟩,fun cap1 hcap1=>?_⟩
 rw [Nat.zero_add] at hcap1 ⊢
 conv=>whnf
 refine hT _ _ ?_
 refine aops_step fun T S hT hS=>?_
 conv=>whnf
 refine hT _ _ ?_
 refine aops_end ?_
 refine hK _ _ ?_
 clear hK hR
 refine swp_cut fun K hK hR _=>?_
 iterate 2 (refine aops_step fun T S hT hS=>?_; (conv=>whnf); refine hT _ _ ?_)
 refine aops_step fun T S hT hS=>?_
 conv=>whnf
 refine ⟨[.int .u8 128],rfl,rfl,rfl,?_⟩
 conv=>whnf
 refine ⟨by show ([]++u8s X).length=X.length*1; rw [List.nil_append,List.length_map,Nat.mul_one],hcap1,rfl,rfl,⟨by omega,by omega⟩,fun cap2 hcap2=>?_⟩
 conv=>whnf
 refine hT _ _ ?_
 refine aops_step fun T S hT hS=>?_
 conv=>whnf
 refine hT _ _ ?_
 refine aops_end ?_
 refine hK _ _ ?_
 clear hK hR
 refine swp_cut fun K hK hR _=>?_
 conv=>whnf
 refine .inr (loop_invR (gH A _) (PdI1_3 (.one (.slice p X.length c0)) X) ?_ ?_)
 ·intro k' e' m' hI
  obtain ⟨z,cap,N,hz,rfl,hcap,⟨hz0,rfl,rfl⟩ | ⟨hz0,rfl,rfl⟩⟩:=hI
  ·conv=>whnf
   cases hq:(((X.length+1+z:Nat):Int).tmod 64 != 56) with
   | true=>
    have hzlt:z<zc (X.length%64):=zp_lt hz hq
    conv=>whnf
    refine ⟨[.int .u8 0],rfl,rfl,rfl,?_⟩
    conv=>whnf
    refine ⟨by rw [List.length_map,C1_len,Nat.mul_one],hcap,rfl,rfl,⟨by unfold zc at hz; omega,by omega⟩,fun cap' hcap'=>?_⟩
    conv=>whnf
    have hblk:∀ (c:Con) (ρ:Ren),(⟨u8s (C1 X (z+1)),t_uint8,cap'*1,true⟩:Blk)=⟨rnL F0 c ρ (u8s (C1 X z)++[.int .u8 0]),t_uint8,cap'*1,true⟩:=fun c ρ=>by
     rw [show [Sc.int .u8 0]=u8s [0] from rfl,u8s_app,C1_succ,rnL_id (ints_cl _ _ 0)]
    refine ⟨zc (X.length%64)-(z+1),F0,tp 4 5,by omega,tp_ok (by exact Nat.le_of_ble_eq_true rfl) (by exact Nat.le_of_ble_eq_true rfl),fun c N1 _ _=>⟨_,_,wkR_of (by (repeat' apply And.intro)<;>first | trivial | exact ⟨_,rfl,rfl,rfl⟩ | exact ⟨_,rfl,(hs.rn' _ _ _).symm,hs.stable.1 _⟩) (by (repeat' apply And.intro)<;>first | trivial | rfl | exact ⟨_,rfl,hblk c _,ints_cl _ _ _⟩ | exact ⟨_,rfl,rfl,rfl⟩) (by exact Nat.le_of_ble_eq_true rfl),⟨z+1,cap',N1,hzlt,rfl,hcap',.inr ⟨by omega,rfl,rfl⟩⟩⟩⟩
   | false=>
    have hzeq:z=zc (X.length%64):=zp_eq hz hq
    subst hzeq
    conv=>whnf
    refine hK _ _ ?_
    clear hK hR
    refine swp_cut fun K hK hR _=>?_
    conv=>whnf
    refine hK _ _ ?_
    clear hK hR
    refine swp_cut fun K hK hR _=>?_
    refine swp_cut fun K2 hK2 hR2 _=>?_
    conv=>whnf
    refine hK2 _ _ ?_
    clear hK2 hR2
    conv=>whnf
    refine .inr (loop_invR (gH A _) (PdI2_3 X) ?_ ?_)
    ·intro k' e' m' hI
     obtain ⟨i,cap,N,hi8,rfl,hcap,⟨hi0,rfl,rfl⟩ | ⟨hi0,rfl,rfl⟩⟩:=hI
     ·conv=>whnf
      cases hlt:decide ((i:Int)<8) with
      | true=>
       have hi:i<8:=by have:=of_decide_eq_true hlt; omega
       have e8:wr .i64 (8*(i:Int))=.int .i64 ((8*i:Nat):Int):=by
        simp only [wr]
        rw [wrapN (n:=8*i) (by omega) (by omega)]
       have e56:wr .i64 (56-((8*i:Nat):Int))=.int .i64 ((56-8*i:Nat):Int):=by
        simp only [wr]
        rw [wrapN (n:=56-8*i) (by omega) (by omega)]
       show swpC _ (Code.seq _ _) _ _ _
       refine swp_cut fun K4 hK4 hR4 _=>?_
       refine swp_block ?_
       iterate 3 (refine aops_step fun T S hT hS=>?_; (conv=>whnf); refine hT _ _ ?_)
       refine aops_step fun T S hT hS=>?_
       conv=>whnf
       rw [e8]
       refine hT _ _ ?_
       refine aops_step fun T S hT hS=>?_
       conv=>whnf
       rw [e56]
       refine hT _ _ ?_
       iterate 3 (refine aops_step fun T S hT hS=>?_; (conv=>whnf); refine hT _ _ ?_)
       refine aops_step fun T S hT hS=>?_
       conv=>whnf
       refine ⟨[.int .u8 (bt X.length i)],rfl,rfl,rfl,?_⟩
       conv=>whnf
       refine ⟨by rw [List.length_map,P2_len X hi8,Nat.mul_one],hcap,rfl,rfl,⟨by unfold zc; omega,by omega⟩,fun cap' hcap'=>?_⟩
       conv=>whnf
       refine hT _ _ ?_
       refine aops_step fun T S hT hS=>?_
       conv=>whnf
       refine hT _ _ ?_
       refine aops_end ?_
       refine hK4 _ _ ?_
       clear hK4 hR4
       conv=>whnf
       have hblk:∀ (c:Con) (ρ:Ren),(⟨u8s (P2 X (i+1)),t_uint8,cap'*1,true⟩:Blk)=⟨rnL F0 c ρ (u8s (P2 X i)++[.int .u8 (bt X.length i)]),t_uint8,cap'*1,true⟩:=fun c ρ=>by
        rw [show [Sc.int .u8 (bt X.length i)]=u8s [bt X.length i] from rfl,u8s_app,P2_succ X hi,rnL_id (ints_cl _ _ 0)]
       refine ⟨8-(i+1),F0,tp 4 5,by omega,tp_ok (by exact Nat.le_of_ble_eq_true rfl) (by exact Nat.le_of_ble_eq_true rfl),fun c N1 _ _=>⟨_,_,wkR_of (by (repeat' apply And.intro)<;>first | trivial | exact ⟨_,rfl,tv_inc (n:=8) hi (by omega),rfl⟩ | exact ⟨_,rfl,rfl,rfl⟩) (by (repeat' apply And.intro)<;>first | trivial | rfl | exact ⟨_,rfl,hblk c _,ints_cl _ _ _⟩ | exact ⟨_,rfl,rfl,rfl⟩) (by exact Nat.le_of_ble_eq_true rfl),⟨i+1,cap',N1,hi,rfl,hcap',.inr ⟨by omega,rfl,rfl⟩⟩⟩⟩
      | false=>
       exact absurd (of_decide_eq_false hlt) (by omega)
     ·conv=>whnf
      cases hlt:decide ((i:Int)<8) with
      | true=>
       have hi:i<8:=by have:=of_decide_eq_true hlt; omega
       have e8:wr .i64 (8*(i:Int))=.int .i64 ((8*i:Nat):Int):=by
        simp only [wr]
        rw [wrapN (n:=8*i) (by omega) (by omega)]
       have e56:wr .i64 (56-((8*i:Nat):Int))=.int .i64 ((56-8*i:Nat):Int):=by
        simp only [wr]
        rw [wrapN (n:=56-8*i) (by omega) (by omega)]
       show swpC _ (Code.seq _ _) _ _ _
       refine swp_cut fun K4 hK4 hR4 _=>?_
       refine swp_block ?_
       iterate 3 (refine aops_step fun T S hT hS=>?_; (conv=>whnf); refine hT _ _ ?_)
       refine aops_step fun T S hT hS=>?_
       conv=>whnf
       rw [e8]
       refine hT _ _ ?_
       refine aops_step fun T S hT hS=>?_
       conv=>whnf
       rw [e56]
       refine hT _ _ ?_
       iterate 3 (refine aops_step fun T S hT hS=>?_; (conv=>whnf); refine hT _ _ ?_)
       refine aops_step fun T S hT hS=>?_
       conv=>whnf
       refine ⟨[.int .u8 (bt X.length i)],rfl,rfl,rfl,?_⟩
       conv=>whnf
       refine ⟨by rw [List.length_map,P2_len X hi8,Nat.mul_one],hcap,rfl,rfl,⟨by unfold zc; omega,by omega⟩,fun cap' hcap'=>?_⟩
       conv=>whnf
       refine hT _ _ ?_
       refine aops_step fun T S hT hS=>?_
       conv=>whnf
       refine hT _ _ ?_
       refine aops_end ?_
       refine hK4 _ _ ?_
       clear hK4 hR4
       conv=>whnf
       have hblk:∀ (c:Con) (ρ:Ren),(⟨u8s (P2 X (i+1)),t_uint8,cap'*1,true⟩:Blk)=⟨rnL F0 c ρ (u8s (P2 X i)++[.int .u8 (bt X.length i)]),t_uint8,cap'*1,true⟩:=fun c ρ=>by
        rw [show [Sc.int .u8 (bt X.length i)]=u8s [bt X.length i] from rfl,u8s_app,P2_succ X hi,rnL_id (ints_cl _ _ 0)]
       refine ⟨8-(i+1),F0,tp 4 6,by omega,tp_ok (by exact Nat.le_of_ble_eq_true rfl) (by exact Nat.le_of_ble_eq_true rfl),fun c N1 _ _=>⟨_,_,wkR_of (by (repeat' apply And.intro)<;>first | trivial | exact ⟨_,rfl,tv_inc (n:=8) hi (by omega),rfl⟩ | exact ⟨_,rfl,rfl,rfl⟩) (by (repeat' apply And.intro)<;>first | trivial | rfl | exact ⟨_,rfl,hblk c _,ints_cl _ _ _⟩ | exact ⟨_,rfl,rfl,rfl⟩) (by exact Nat.le_of_ble_eq_true rfl),⟨i+1,cap',N1,hi,rfl,hcap',.inr ⟨by omega,rfl,rfl⟩⟩⟩⟩
      | false=>
       obtain rfl:i=8:=by have:=of_decide_eq_false hlt; omega
       conv=>whnf
       refine hK _ _ ?_
       clear hK hR
       rw [P2_8,show X.length+1+zc (X.length%64)+8=(padL X).length from (padL_len X).symm]
       rw [show X.length+1+zc (X.length%64)+8=(padL X).length from (padL_len X).symm] at hcap
       conv=>whnf
       exact ⟨_,_,_,_,rfl,rfl,ints_cl _ _ 0,rfl,hcap,rfl⟩
    ·refine ⟨8,F0,ren0,ren0_ok _,fun c N1 _ _=>⟨_,_,wkR_of (by (repeat' apply And.intro)<;>first | trivial | exact ⟨_,rfl,rfl,rfl⟩) (by (repeat' apply And.intro)<;>first | trivial | rfl | exact ⟨_,rfl,hblk20 c _ _,ints_cl _ _ _⟩ | exact ⟨_,rfl,rfl,rfl⟩) (by exact Nat.le_of_ble_eq_true rfl),⟨0,cap,N1,by omega,rfl,hcap,.inl ⟨rfl,rfl,rfl⟩⟩⟩⟩
  ·conv=>whnf
   cases hq:(((X.length+1+z:Nat):Int).tmod 64 != 56) with
   | true=>
    have hzlt:z<zc (X.length%64):=zp_lt hz hq
    conv=>whnf
    refine ⟨[.int .u8 0],rfl,rfl,rfl,?_⟩
    conv=>whnf
    refine ⟨by rw [List.length_map,C1_len,Nat.mul_one],hcap,rfl,rfl,⟨by unfold zc at hz; omega,by omega⟩,fun cap' hcap'=>?_⟩
    conv=>whnf
    have hblk:∀ (c:Con) (ρ:Ren),(⟨u8s (C1 X (z+1)),t_uint8,cap'*1,true⟩:Blk)=⟨rnL F0 c ρ (u8s (C1 X z)++[.int .u8 0]),t_uint8,cap'*1,true⟩:=fun c ρ=>by
     rw [show [Sc.int .u8 0]=u8s [0] from rfl,u8s_app,C1_succ,rnL_id (ints_cl _ _ 0)]
    refine ⟨zc (X.length%64)-(z+1),F0,tp 4 6,by omega,tp_ok (by exact Nat.le_of_ble_eq_true rfl) (by exact Nat.le_of_ble_eq_true rfl),fun c N1 _ _=>⟨_,_,wkR_of (by (repeat' apply And.intro)<;>first | trivial | exact ⟨_,rfl,rfl,rfl⟩ | exact ⟨_,rfl,(hs.rn' _ _ _).symm,hs.stable.1 _⟩) (by (repeat' apply And.intro)<;>first | trivial | rfl | exact ⟨_,rfl,hblk c _,ints_cl _ _ _⟩ | exact ⟨_,rfl,rfl,rfl⟩) (by exact Nat.le_of_ble_eq_true rfl),⟨z+1,cap',N1,hzlt,rfl,hcap',.inr ⟨by omega,rfl,rfl⟩⟩⟩⟩
   | false=>
    have hzeq:z=zc (X.length%64):=zp_eq hz hq
    subst hzeq
    conv=>whnf
    refine hK _ _ ?_
    clear hK hR
    refine swp_cut fun K hK hR _=>?_
    conv=>whnf
    refine hK _ _ ?_
    clear hK hR
    refine swp_cut fun K hK hR _=>?_
    refine swp_cut fun K2 hK2 hR2 _=>?_
    conv=>whnf
    refine hK2 _ _ ?_
    clear hK2 hR2
    conv=>whnf
    refine .inr (loop_invR (gH A _) (PdI2_4 X) ?_ ?_)
    ·intro k' e' m' hI
     obtain ⟨i,cap,N,hi8,rfl,hcap,⟨hi0,rfl,rfl⟩ | ⟨hi0,rfl,rfl⟩⟩:=hI
     ·conv=>whnf
      cases hlt:decide ((i:Int)<8) with
      | true=>
       have hi:i<8:=by have:=of_decide_eq_true hlt; omega
       have e8:wr .i64 (8*(i:Int))=.int .i64 ((8*i:Nat):Int):=by
        simp only [wr]
        rw [wrapN (n:=8*i) (by omega) (by omega)]
       have e56:wr .i64 (56-((8*i:Nat):Int))=.int .i64 ((56-8*i:Nat):Int):=by
        simp only [wr]
        rw [wrapN (n:=56-8*i) (by omega) (by omega)]
       show swpC _ (Code.seq _ _) _ _ _
       refine swp_cut fun K4 hK4 hR4 _=>?_
       refine swp_block ?_
       iterate 3 (refine aops_step fun T S hT hS=>?_; (conv=>whnf); refine hT _ _ ?_)
       refine aops_step fun T S hT hS=>?_
       conv=>whnf
       rw [e8]
       refine hT _ _ ?_
       refine aops_step fun T S hT hS=>?_
       conv=>whnf
       rw [e56]
       refine hT _ _ ?_
       iterate 3 (refine aops_step fun T S hT hS=>?_; (conv=>whnf); refine hT _ _ ?_)
       refine aops_step fun T S hT hS=>?_
       conv=>whnf
       refine ⟨[.int .u8 (bt X.length i)],rfl,rfl,rfl,?_⟩
       conv=>whnf
       refine ⟨by rw [List.length_map,P2_len X hi8,Nat.mul_one],hcap,rfl,rfl,⟨by unfold zc; omega,by omega⟩,fun cap' hcap'=>?_⟩
       conv=>whnf
       refine hT _ _ ?_
       refine aops_step fun T S hT hS=>?_
       conv=>whnf
       refine hT _ _ ?_
       refine aops_end ?_
       refine hK4 _ _ ?_
       clear hK4 hR4
       conv=>whnf
       have hblk:∀ (c:Con) (ρ:Ren),(⟨u8s (P2 X (i+1)),t_uint8,cap'*1,true⟩:Blk)=⟨rnL F0 c ρ (u8s (P2 X i)++[.int .u8 (bt X.length i)]),t_uint8,cap'*1,true⟩:=fun c ρ=>by
        rw [show [Sc.int .u8 (bt X.length i)]=u8s [bt X.length i] from rfl,u8s_app,P2_succ X hi,rnL_id (ints_cl _ _ 0)]
       refine ⟨8-(i+1),F0,tp 5 6,by omega,tp_ok (by exact Nat.le_of_ble_eq_true rfl) (by exact Nat.le_of_ble_eq_true rfl),fun c N1 _ _=>⟨_,_,wkR_of (by (repeat' apply And.intro)<;>first | trivial | exact ⟨_,rfl,tv_inc (n:=8) hi (by omega),rfl⟩ | exact ⟨_,rfl,rfl,rfl⟩) (by (repeat' apply And.intro)<;>first | trivial | rfl | exact ⟨_,rfl,hblk c _,ints_cl _ _ _⟩ | exact ⟨_,rfl,rfl,rfl⟩) (by exact Nat.le_of_ble_eq_true rfl),⟨i+1,cap',N1,hi,rfl,hcap',.inr ⟨by omega,rfl,rfl⟩⟩⟩⟩
      | false=>
       exact absurd (of_decide_eq_false hlt) (by omega)
     ·conv=>whnf
      cases hlt:decide ((i:Int)<8) with
      | true=>
       have hi:i<8:=by have:=of_decide_eq_true hlt; omega
       have e8:wr .i64 (8*(i:Int))=.int .i64 ((8*i:Nat):Int):=by
        simp only [wr]
        rw [wrapN (n:=8*i) (by omega) (by omega)]
       have e56:wr .i64 (56-((8*i:Nat):Int))=.int .i64 ((56-8*i:Nat):Int):=by
        simp only [wr]
        rw [wrapN (n:=56-8*i) (by omega) (by omega)]
       show swpC _ (Code.seq _ _) _ _ _
       refine swp_cut fun K4 hK4 hR4 _=>?_
       refine swp_block ?_
       iterate 3 (refine aops_step fun T S hT hS=>?_; (conv=>whnf); refine hT _ _ ?_)
       refine aops_step fun T S hT hS=>?_
       conv=>whnf
       rw [e8]
       refine hT _ _ ?_
       refine aops_step fun T S hT hS=>?_
       conv=>whnf
       rw [e56]
       refine hT _ _ ?_
       iterate 3 (refine aops_step fun T S hT hS=>?_; (conv=>whnf); refine hT _ _ ?_)
       refine aops_step fun T S hT hS=>?_
       conv=>whnf
       refine ⟨[.int .u8 (bt X.length i)],rfl,rfl,rfl,?_⟩
       conv=>whnf
       refine ⟨by rw [List.length_map,P2_len X hi8,Nat.mul_one],hcap,rfl,rfl,⟨by unfold zc; omega,by omega⟩,fun cap' hcap'=>?_⟩
       conv=>whnf
       refine hT _ _ ?_
       refine aops_step fun T S hT hS=>?_
       conv=>whnf
       refine hT _ _ ?_
       refine aops_end ?_
       refine hK4 _ _ ?_
       clear hK4 hR4
       conv=>whnf
       have hblk:∀ (c:Con) (ρ:Ren),(⟨u8s (P2 X (i+1)),t_uint8,cap'*1,true⟩:Blk)=⟨rnL F0 c ρ (u8s (P2 X i)++[.int .u8 (bt X.length i)]),t_uint8,cap'*1,true⟩:=fun c ρ=>by
        rw [show [Sc.int .u8 (bt X.length i)]=u8s [bt X.length i] from rfl,u8s_app,P2_succ X hi,rnL_id (ints_cl _ _ 0)]
       refine ⟨8-(i+1),F0,tp 5 7,by omega,tp_ok (by exact Nat.le_of_ble_eq_true rfl) (by exact Nat.le_of_ble_eq_true rfl),fun c N1 _ _=>⟨_,_,wkR_of (by (repeat' apply And.intro)<;>first | trivial | exact ⟨_,rfl,tv_inc (n:=8) hi (by omega),rfl⟩ | exact ⟨_,rfl,rfl,rfl⟩) (by (repeat' apply And.intro)<;>first | trivial | rfl | exact ⟨_,rfl,hblk c _,ints_cl _ _ _⟩ | exact ⟨_,rfl,rfl,rfl⟩) (by exact Nat.le_of_ble_eq_true rfl),⟨i+1,cap',N1,hi,rfl,hcap',.inr ⟨by omega,rfl,rfl⟩⟩⟩⟩
      | false=>
       obtain rfl:i=8:=by have:=of_decide_eq_false hlt; omega
       conv=>whnf
       refine hK _ _ ?_
       clear hK hR
       rw [P2_8,show X.length+1+zc (X.length%64)+8=(padL X).length from (padL_len X).symm]
       rw [show X.length+1+zc (X.length%64)+8=(padL X).length from (padL_len X).symm] at hcap
       conv=>whnf
       exact ⟨_,_,_,_,rfl,rfl,ints_cl _ _ 0,rfl,hcap,rfl⟩
    ·refine ⟨8,F0,ren0,ren0_ok _,fun c N1 _ _=>⟨_,_,wkR_of (by (repeat' apply And.intro)<;>first | trivial | exact ⟨_,rfl,rfl,rfl⟩) (by (repeat' apply And.intro)<;>first | trivial | rfl | exact ⟨_,rfl,hblk20 c _ _,ints_cl _ _ _⟩ | exact ⟨_,rfl,rfl,rfl⟩) (by exact Nat.le_of_ble_eq_true rfl),⟨0,cap,N1,by omega,rfl,hcap,.inl ⟨rfl,rfl,rfl⟩⟩⟩⟩
 ·refine ⟨zc (X.length%64),F0,ren0,ren0_ok _,fun c N1 _ _=>⟨_,_,wkR_of (by (repeat' apply And.intro)<;>first | trivial | exact ⟨_,rfl,rfl,rfl⟩ | exact ⟨_,rfl,(hs.rn' _ _ _).symm,hs.stable.1 _⟩) (by (repeat' apply And.intro)<;>first | trivial | rfl | exact ⟨_,rfl,hblk10 c _ _,ints_cl _ _ _⟩ | exact ⟨_,rfl,rfl,rfl⟩) (by exact Nat.le_of_ble_eq_true rfl),⟨0,cap2,N1,Nat.zero_le _,rfl,hcap2,.inl ⟨rfl,rfl,rfl⟩⟩⟩⟩

end Go.Hv

namespace Go.Hv
open Go.Ev

def nmB (nm:ByteArray):List Int:=nm.data.toList.map fun b=>(b.toNat:Int)

def Texts (A:Base) (v:TV) (Xs:List (List Int)):Prop:=
 ∃ Ss:List Sc,Sl A 1 v (ones Ss)∧Ss.length=Xs.length∧∀ (i:Nat) (S:Sc) (X:List Int),Ss[i]?=some S→Xs[i]?=some X→Sl A 1 (.one S) (ones (u8s X))

theorem Texts.mono {A B:Base} (h:Base.le A B) {v:TV} {Xs:List (List Int)} (ht:Texts A v Xs):Texts B v Xs:=by
 obtain ⟨Ss,h1,h2,h3⟩:=ht
 exact ⟨Ss,h1.mono h,h2,fun i S X hi hx=>(h3 i S X hi hx).mono h⟩

def tagY (T0:List Int) (Xs:List (List Int)) (i:Nat):List Int:=T0++T0++(Xs.take i).flatten
def tagD (nm:ByteArray) (Xs:List (List Int)):List Int:=shaD (tagY (shaD (nmB nm)) Xs Xs.length)

theorem tagY_succ (T0:List Int) {Xs:List (List Int)} {i:Nat} (h:i<Xs.length):tagY T0 Xs i++Xs[i]=tagY T0 Xs (i+1):=by
 unfold tagY
 rw [List.take_succ_eq_append_getElem h,List.flatten_append,List.append_assoc]
 simp

theorem take_flat_le (Xs:List (List Int)) (i:Nat):(Xs.take i).flatten.length≤Xs.flatten.length:=by
 have h:=congrArg List.length (congrArg List.flatten (List.take_append_drop i Xs))
 rw [List.flatten_append,List.length_append] at h
 omega

theorem tagY_le (T0:List Int) (Xs:List (List Int)) (i:Nat):(tagY T0 Xs i).length≤(tagY T0 Xs Xs.length).length:=by
 unfold tagY
 rw [List.length_append,List.length_append (bs:=(Xs.take Xs.length).flatten),List.take_length]
 have:=take_flat_le Xs i
 omega

def TgE (len i:Nat) (q:TV):Env:=[(21,.one (.int .i64 (i:Int))),(20,.one (.int .i64 (len:Int))),(19,q),(6,.one (.ptr (some (.loc 2 0)))),(4,.one (.ptr (some (.loc 0 0))))]

def TgI (T0:List Int) (Xs:List (List Int)) (q:TV) (k:Nat) (e:Env) (m:HM):Prop:=
 ∃ (i t0 t1 t2:Nat) (N:Base),i≤Xs.length∧k=Xs.length-i∧e=TgE Xs.length i q ∧
  (((tagY T0 Xs i).length%64=0∧m=⟨[some ⟨List.replicate 32 (.int .u8 0),t0,0,false⟩,some ⟨u8s T0,t1,0,false⟩,some ⟨hcells (stateOf (tagY T0 Xs i)) (.slice none 0 0) (tagY T0 Xs i).length,t2,0,false⟩,none,none],N⟩) ∨
   ((tagY T0 Xs i).length%64≠0∧∃ cap,(restOf (tagY T0 Xs i)).length≤cap∧m=⟨[some ⟨List.replicate 32 (.int .u8 0),t0,0,false⟩,some ⟨u8s T0,t1,0,false⟩,some ⟨hcells (stateOf (tagY T0 Xs i)) (.slice (some (.loc 5 0)) (restOf (tagY T0 Xs i)).length cap) (tagY T0 Xs i).length,t2,0,false⟩,none,none,some ⟨u8s (restOf (tagY T0 Xs i)),t_uint8,cap*1,true⟩],N⟩))

theorem sl_frozen {F:Nat→Bool} {c:Con} {B:Base} {bs:Mem} {b t:Nat} {X:List Int} (hF:Frozen F c B bs) (hb:F b=true) (hx:nth bs b=some ⟨u8s X,t,0,false⟩) (hX:X.length≤140737488355128) :
  Sl B 1 (.one (.slice (some (.ext ⟨c.ι b,0,none⟩)) X.length X.length)) (ones (u8s X)):=by
 have hL:Lent c B (setB (List.replicate (b+1) none) b (some ⟨u8s X,t,0,false⟩)):=fun d y hy=>by
  by_cases hd:d=b
  ·subst hd
   rw [nth_eq,setB_eq,List.getElem?_set_self (by simp)] at hy
   obtain rfl:=Option.some.inj (Option.some.inj hy)
   exact hF d _ hb hx
  ·rw [nth_setB_ne (Ne.symm hd),nth_eq,List.getElem?_replicate] at hy
   split at hy<;>cases hy
 refine sl_lent (b:=b) (o:=0) (x:=⟨u8s X,t,0,false⟩) (L:=ones (u8s X)) (post:=[]) hL ?_ (ints_cl _ _ 0) (by rw [ones_flat]; exact (List.append_nil _).symm) (by rw [u8s_len]) (by rw [u8s_len]; exact Nat.le_refl _) (by rw [u8s_len]; omega) (ones_es _)
 rw [nth_eq,setB_eq,List.getElem?_set_self (by simp)]

theorem put_all {l v:List Sc} (h:l.length=v.length):putAt l 0 v=some v:=by
 have:=putAt_app [] l [] v h
 simpa using this

theorem tag_ok:∀ A,okCode (HHo A fun _=>none) F_sha_Tagged.ntmps (bodyOf F_sha_Tagged)=true:=fun _=>by kernel_rfl

theorem two_ms {b d t cap n:Nat} {s:S8} {R:List Int} {bs:Mem} (hbd:Nat.beq b d=false) (h1:nth bs b=some ⟨hcells s (.slice (some (.loc d 0)) R.length cap) n,t,0,false⟩) (h2:nth bs d=some ⟨u8s R,t_uint8,cap*1,true⟩) :
  ∀ (c:Con) (i b':Nat),[b,d][i]?=some b'→nth [some ⟨hcells s (.slice (some (.loc 1 0)) R.length cap) n,t,0,false⟩,some ⟨u8s R,t_uint8,cap*1,true⟩] i=rnB (keepF [b,d]) c (inR [b,d]) (nth bs b'):=fun c i b' h=>by
 have hid:idx [b,d] d=some 1:=by simp [idx,hbd]
 match i,h with
 | 0,h=>
  simp only [List.getElem?_cons_zero,Option.some.injEq] at h
  subst h
  rw [h1]
  have hk:keepF [b,d] d=false:=by unfold keepF; rw [hid]
  have ht:(inR [b,d]).to d=1:=by simp only [inR,hid]
  have:rnL (keepF [b,d]) c (inR [b,d]) (hcells s (.slice (some (.loc d 0)) R.length cap) n)=hcells s (.slice (some (.loc 1 0)) R.length cap) n:=by
   simp only [hcells,S8.cells,rnL,List.cons_append,List.nil_append,Sc.rn,SP.rn,hk,ht,w32]
  simp only [rnB,nth,this]
 | 1,h=>
  simp only [List.getElem?_cons_succ,List.getElem?_cons_zero,Option.some.injEq] at h
  subst h
  rw [h2]
  simp only [rnB,nth,rnL_id (ints_cl .u8 R 0)]
 | i+2,h=>simp at h

set_option maxHeartbeats 2000000 in
set_option maxRecDepth 100000 in
theorem tagged_hc {A:Base} {nm:ByteArray} {q:TV} {Xs:List (List Int)} (hTb:Tab A) (hq:Texts A q Xs) (hnm:nm.size≤1000000) (hY:(tagY (shaD (nmB nm)) Xs Xs.length).length≤140737488360000) :
  HC PG A f_sha_Tagged [.one (.str nm),q] fun v _=>v=.agg (u8s (tagD nm Xs)):=by
 obtain ⟨Ss,hSt,hSl,hE⟩:=hq
 obtain ⟨q0,cap0,rfl,hc1,hc2,hc3⟩:=id hSt
 have hlen:(ones Ss).length=Xs.length:=by rw [ones_len,hSl]
 rw [hlen] at hSt hc1 ⊢
 refine hc_start (fun _=>none) h_sha_Tagged rfl (by kernel_rfl) (tag_ok A) (closedTs_iff.2 fun v hv=>by
  simp only [List.mem_cons,List.not_mem_nil,or_false] at hv
  rcases hv with rfl | rfl
  ·rfl
  ·exact hSt.stable.1 0) ?_
 unfold tagD
 have hT0l:(shaD (nmB nm)).length=32:=shaD_len _
 have hnl:(nmB nm).length=nm.size:=by
  unfold nmB
  rw [List.length_map,Array.length_toList]
  rfl
 have htb:∀ {B:Base},Base.le A B→Tab B:=fun h=>ERead_le h hTb
 have cof:=fun (B:Base) (hB:Base.le A B) (a:Addr) (cap:Nat) (hs:Sl B 1 (.one (.slice (some (.ext a)) (nmB nm).length cap)) (ones (u8s (nmB nm))))=>of_hc (htb hB) hs (by omega)
 generalize hT0:shaD (nmB nm)=T0 at *
 refine swp_cut fun K hK hR _=>?_
 conv=>whnf
 refine hK _ _ ?_
 clear hK hR
 refine swp_cut fun K hK hR _=>?_
 refine aops_step fun T S hT hS=>?_
 conv=>whnf
 refine hT _ _ ?_
 refine aops_step fun T S hT hS=>?_
 conv=>whnf
 refine ⟨by omega,fun a cap N1 hcap ha0 hsp hle hb=>?_⟩
 have hs1:Sl N1 1 (.one (.slice (some (.ext a)) (nmB nm).length cap)) (ones (u8s (nmB nm))):=by
  refine ⟨some (.ext a),cap,by rw [u8s_len],⟨by rw [u8s_len]; omega,by rw [u8s_len]; omega⟩,fun x hx=>?_,hsp,fun i x j s hi hj=>?_⟩
  ·obtain ⟨s,hs,rfl⟩:=List.mem_map.1 hx
   exact ⟨rfl,closedL_iff.2 fun s' hs'=>by
    simp only [List.mem_singleton] at hs'
    subst hs'
    exact closedL_iff.1 (ints_cl .u8 _ 0) _ hs⟩
  ·simp only [ones,u8s,nmB,List.getElem?_map,Option.map_eq_some_iff] at hi
   obtain ⟨s',⟨z,⟨b,hb',rfl⟩,rfl⟩,rfl⟩:=hi
   have hj0:j=0:=by
    have:=(List.getElem?_eq_some_iff.1 hj).1
    simpa using this
   subst hj0
   obtain rfl:=Option.some.inj hj
   have:=hb i b (by simpa using hb')
   rw [Nat.mul_one,Nat.add_zero]
   exact this
 rw [← hnl]
 refine hT _ _ ?_
 refine aops_step fun T S hT hS=>?_
 conv=>whnf
 refine ⟨fun v _=>v=.agg (u8s T0),fun c B hB hL=>cof B (fun r o h=>hB r o (.inl h)) a cap (hs1.mono (fun r o h=>hB r o (.inr h))),⟨.agg (u8s T0),B0,ints_cl .u8 _ 0,rfl⟩,?_⟩
 rintro v N' _ rfl N2 hN2
 refine hT _ _ ?_
 refine aops_step fun T S hT hS=>?_
 conv=>whnf
 refine hT _ _ ?_
 refine aops_step fun T S hT hS=>?_
 conv=>whnf
 have hb32:Nat.beq 32 (u8s T0).length=true:=by rw [List.length_map,hT0l]; rfl
 have hp32:putAt (List.replicate 32 (Sc.int .u8 0)) 0 (u8s T0)=some (u8s T0):=put_all (by rw [List.length_map,hT0l]; rfl)
 conv in (Nat.beq _ _)=>change Nat.beq 32 (u8s T0).length; rw [hb32]
 conv=>whnf
 conv in (putAt _ _ _)=>change putAt (List.replicate 32 (Sc.int .u8 0)) 0 (u8s T0); rw [hp32]
 conv=>whnf
 refine hT _ _ ?_
 refine aops_end ?_
 refine hK _ _ ?_
 clear hK hR
 refine swp_cut fun K hK hR _=>?_
 refine aops_step fun T S hT hS=>?_
 conv=>whnf
 refine ⟨_,CALL.lend (ms:=[]) [] (by simp) (by simp) rfl (new_call (A:=A)).1 (fun _ i b h=>by simp at h) (fun c B _ _=>new_call),⟨_,_,_,_,⟨rfl,0,rfl⟩,rfl,rfl⟩,?_⟩
 rintro v m' ⟨v0,ms',⟨rfl,t,rfl⟩,rfl,rfl⟩
 show T (.one (.ptr (some (.loc 2 0)))) ⟨[some ⟨List.replicate 32 (.int .u8 0),_,0,false⟩,some ⟨u8s T0,_,0,false⟩,some ⟨hcells begun8 (.slice none 0 0) 0,t,0,false⟩],_⟩
 refine hT _ _ ?_
 refine aops_step fun T S hT hS=>?_
 conv=>whnf
 refine hT _ _ ?_
 refine aops_end ?_
 refine hK _ _ ?_
 clear hK hR
 refine swp_cut fun K hK hR _=>?_
 iterate 2 (refine aops_step fun T S hT hS=>?_; (conv=>whnf); refine hT _ _ ?_)
 refine aops_step fun T S hT hS=>?_
 conv=>whnf
 refine ⟨_,CALL.lend (ms:=[some ⟨hcells begun8 (.slice none 0 0) 0,t,0,false⟩]) [2] (by simp) (fun b hb=>by
   simp only [List.mem_singleton] at hb
   subst hb
   exact Nat.le_refl 3) rfl (write_nil (A:=A) (p:=none) (cap:=0) (X:=[]) (t:=0) (n:=0) (s:=begun8) hTb sl_none (by decide) (by decide)).1 (one_ms rfl fun c ρ F=>hcells_rn _ _ F c ρ) (fun c B hB hF=>by
   show CALL PG B f_sha_Hash_Write [.one (.ptr (some (.loc 0 0))),.one (.slice (some (.ext ⟨c.ι 1,0,none⟩)) 32 32)] _ _
   have:=sl_frozen (b:=1) hF rfl rfl (by omega)
   rw [hT0l] at this
   have w:=write_nil (s:=begun8) (n:=0) (t:=t) (htb (fun r o h=>hB r o (.inl h))) (X:=T0) (p:=some (.ext ⟨c.ι 1,0,none⟩)) (cap:=32) (by rw [hT0l]; exact this) (by omega) (by omega)
   rw [hT0l] at w
   exact w),(by
   obtain ⟨v,m',h⟩:=WrK_ne T0 begun8 (0+32)
   exact ⟨_,_,v,m',h,rfl,rfl⟩),?_⟩
 rintro v m' ⟨v0,ms',⟨rfl,hcase⟩,rfl,rfl⟩
 have hT64:T0.length%64=32:=by rw [hT0l]
 have hrT:restOf T0=T0:=by unfold restOf; rw [hT0l]; rfl
 rcases hcase with ⟨h0,t',N',rfl⟩ | ⟨h0,t',cap',N',hcap',rfl⟩
 ·omega
 rw [hT64] at hcap'
 have hmod:T0.length%64=T0.length:=by omega
 have e1:T0.drop (64*(T0.length/64))=T0:=hrT
 show T (.tup []) ⟨[some ⟨List.replicate 32 (.int .u8 0),_,0,false⟩,some ⟨u8s T0,_,0,false⟩,some ⟨hcells (stateOf T0) (.slice (some (.loc 3 0)) (T0.length%64) cap') (0+32),t',0,false⟩,some ⟨rnL F0 Con0 (outR [2] 3) (u8s (T0.drop (64*(T0.length/64)))),t_uint8,cap'*1,true⟩],_⟩
 rw [rnL_id (ints_cl .u8 _ 0),e1,hmod]
 refine hT _ _ ?_
 refine aops_end ?_
 refine hK _ _ ?_
 clear hK hR
 refine swp_cut fun K hK hR _=>?_
 iterate 2 (refine aops_step fun T S hT hS=>?_; (conv=>whnf); refine hT _ _ ?_)
 refine aops_step fun T S hT hS=>?_
 conv=>whnf
 refine ⟨_,CALL.lend (ms:=[some ⟨hcells (stateOf T0) (.slice (some (.loc 1 0)) T0.length cap') (0+32),t',0,false⟩,some ⟨u8s T0,t_uint8,cap'*1,true⟩]) [2,3] (by decide) (fun b hb=>by
   simp only [List.mem_cons,List.not_mem_nil,or_false] at hb
   show b<4
   omega) rfl (write_rest (A:=A) (p:=none) (cap:=0) (X:=[]) (R:=T0) (t:=0) (n:=0) (cap0:=cap') (s:=begun8) hTb sl_none (by decide) (by decide) (by omega) (by omega) (by omega)).1 (two_ms rfl rfl rfl) (fun c B hB hF=>by
   show CALL PG B f_sha_Hash_Write [.one (.ptr (some (.loc 0 0))),.one (.slice (some (.ext ⟨c.ι 1,0,none⟩)) 32 32)] _ _
   have:=sl_frozen (b:=1) hF rfl rfl (by omega)
   have w:=write_rest (s:=stateOf T0) (n:=0+32) (t:=t') (htb (fun r o h=>hB r o (.inl h))) (X:=T0) (R:=T0) (p:=some (.ext ⟨c.ι 1,0,none⟩)) (cap:=T0.length) (cap0:=cap') this (by omega) (by omega) (by omega) (by omega) (by omega)
   have e:TV.one (.slice (some (.ext ⟨c.ι 1,0,none⟩)) 32 32)=TV.one (.slice (some (.ext ⟨c.ι 1,0,none⟩)) T0.length T0.length):=by rw [hT0l]
   rw [e]
   exact w),(by
   obtain ⟨v,m',h⟩:=WrK2_ne T0 T0 (stateOf T0) (0+32+T0.length)
   exact ⟨_,_,v,m',h,rfl,rfl⟩),?_⟩
 rintro v m' ⟨v0,ms',hcase,rfl,rfl⟩
 have sm:=state_more (Y:=T0) (X:=T0) (by omega) (T0.drop (64-T0.length)) (by rw [hmod])
 rw [hrT] at sm
 have hX':T0.drop (64-T0.length)=[]:=List.drop_eq_nil_of_le (by omega)
 rcases hcase with ⟨hlt,_⟩ | ⟨_,rfl,⟨h0',t2,N2',rfl⟩ | ⟨h0',_⟩⟩
 ·omega
 ·rw [sm.1]
  have hY0:tagY T0 Xs 0=T0++T0:=by unfold tagY; simp
  have hb0:∀ F c ρ,(⟨hcells (stateOf (tagY T0 Xs 0)) (.slice none 0 0) (tagY T0 Xs 0).length,t2,0,false⟩:Blk)=⟨rnL F c ρ (hcells (stateOf (T0++T0)) (.slice none 0 0) (0+32+T0.length)),t2,0,false⟩:=fun F c ρ=>by
   rw [hcells_rn,hY0,List.length_append,show T0.length+T0.length=0+32+T0.length by omega]
  show T (.tup []) ⟨[some ⟨List.replicate 32 (.int .u8 0),_,0,false⟩,some ⟨u8s T0,_,0,false⟩,some ⟨hcells (stateOf (T0++T0)) (.slice none 0 0) _,t2,0,false⟩,none,none],_⟩
  refine hT _ _ ?_
  refine aops_end ?_
  refine hK _ _ ?_
  clear hK hR
  refine swp_cut fun K hK hR _=>?_
  refine swp_cut fun K2 hK2 hR2 _=>?_
  conv=>whnf
  refine hK2 _ _ ?_
  clear hK2 hR2
  conv=>whnf
  refine .inr (loop_invR (gH A _) (TgI T0 Xs (.one (.slice q0 Xs.length cap0))) ?_ ?_)
  ·intro k' e' m' hI
   obtain ⟨i,t0,t1,t2,N,hi,rfl,rfl,hcase⟩:=hI
   rcases hcase with ⟨hm0,rfl⟩ | ⟨hm0,cap,hcapR,rfl⟩
   ·conv=>whnf
    cases hlt:decide ((i:Int)<(Xs.length:Int)) with
    | true=>
     have hi':i<Xs.length:=by have:=of_decide_eq_true hlt; omega
     have hiS:i<Ss.length:=by omega
     have hel:(ones Ss)[i]?=some [Ss[i]]:=onesGet (List.getElem?_eq_getElem hiS)
     have hX:=hE i Ss[i] Xs[i] (List.getElem?_eq_getElem hiS) (List.getElem?_eq_getElem hi')
     have hYs:=tagY_succ T0 hi'
     have hYl:=tagY_le T0 Xs (i+1)
     generalize Xs[i]=X at *
     obtain ⟨pX,capX,eS,_,_,_⟩:=id hX
     have eS:=TV.one.inj eS
     rw [u8s_len] at eS
     rw [eS] at hel hX
     have hlY:(tagY T0 Xs (i+1)).length=(tagY T0 Xs i).length+X.length:=by rw [← hYs,List.length_append]
     obtain ⟨qa,hqa⟩:=sl_ext' hSt (by rw [hlen]; omega)
     subst hqa
     show swpC _ (Code.seq _ _) _ _ _
     refine swp_cut fun K4 hK4 hR4 _=>?_
     show swpC _ (Code.seq _ _) _ _ _
     refine swp_cut fun K3 hK3 hR3 _=>?_
     refine aops_step fun T S hT hS=>?_
     conv=>whnf
     rw [dec_idx (n:=Xs.length) hi']
     conv=>whnf
     refine hT _ _ ?_
     refine aops_step fun T S hT hS=>?_
     conv=>whnf
     refine ⟨_,ERead_l (Sl.one (i:=i) hSt hel),?_⟩
     refine hT _ _ ?_
     refine aops_step fun T S hT hS=>?_
     conv=>whnf
     refine hT _ _ ?_
     refine aops_end ?_
     refine hK3 _ _ ?_
     clear hK3 hR3
     iterate 2 (refine aops_step fun T S hT hS=>?_; (conv=>whnf); refine hT _ _ ?_)
     refine aops_step fun T S hT hS=>?_
     conv=>whnf
     refine ⟨_,CALL.lend (ms:=[some ⟨hcells (stateOf (tagY T0 Xs i)) (.slice none 0 0) (tagY T0 Xs i).length,t2,0,false⟩]) [2] (by decide) (fun b hb=>by
       simp only [List.mem_singleton] at hb
       show b<5
       omega) rfl (write_nil (A:=A) (p:=none) (cap:=0) (X:=[]) (t:=0) (n:=0) (s:=begun8) hTb sl_none (by decide) (by decide)).1 (one_ms rfl fun c ρ F=>hcells_rn _ _ F c ρ) (fun c B hB hF=>by
       show CALL PG B f_sha_Hash_Write [.one (.ptr (some (.loc 0 0))),TV.rn (keepF [2]) c (inR [2]) (.one (.slice pX X.length capX))] _ _
       rw [hX.rn']
       exact write_nil (htb (fun r o h=>hB r o (.inl h))) (hX.mono (fun r o h=>hB r o (.inl h))) (by omega) (by omega)),(by
       obtain ⟨v,m',h⟩:=WrK_ne X (stateOf (tagY T0 Xs i)) ((tagY T0 Xs i).length+X.length)
       exact ⟨_,_,v,m',h,rfl,rfl⟩),?_⟩
     rintro v m' ⟨v0,ms',⟨rfl,hcase⟩,rfl,rfl⟩
     have sn:=state_nil (Y:=tagY T0 Xs i) (X:=X) hm0
     rw [hYs] at sn
     rcases hcase with ⟨h0,t',N',rfl⟩ | ⟨h0,t',cap',N',hcap',rfl⟩
     ·show T (.tup []) ⟨[some ⟨List.replicate 32 (.int .u8 0),t0,0,false⟩,some ⟨u8s T0,t1,0,false⟩,some ⟨hcells (runP X (stateOf (tagY T0 Xs i)) (X.length/64)) (.slice none 0 0) ((tagY T0 Xs i).length+X.length),t',0,false⟩,none,none],_⟩
      rw [sn.1,← hlY]
      refine hT _ _ ?_
      refine aops_end ?_
      refine hK4 _ _ ?_
      clear hK4 hR4
      conv=>whnf
      refine ⟨Xs.length-(i+1),F0,ren0,by omega,ren0_ok _,fun c N1 _ _=>⟨_,_,wkR_of (by (repeat' apply And.intro)<;>first | trivial | exact ⟨_,rfl,tv_inc (n:=Xs.length) hi' (by omega),rfl⟩ | exact ⟨_,rfl,rfl,rfl⟩ | exact ⟨_,rfl,(hSt.rn' _ _ _).symm,hSt.stable.1 _⟩) (by (repeat' apply And.intro)<;>first | trivial | rfl | exact ⟨_,rfl,u8_blkR _ _ _ _ _ _ _,ints_cl _ _ _⟩ | exact ⟨_,rfl,rfl,rfl⟩) (by exact Nat.le_of_ble_eq_true rfl),⟨i+1,t0,t1,t',N1,hi',rfl,rfl,.inl ⟨by omega,rfl⟩⟩⟩⟩
     ·have hrl:X.length%64=(restOf (tagY T0 Xs (i+1))).length:=by rw [restOf_len,hlY]; omega
      show T (.tup []) ⟨[some ⟨List.replicate 32 (.int .u8 0),t0,0,false⟩,some ⟨u8s T0,t1,0,false⟩,some ⟨hcells (runP X (stateOf (tagY T0 Xs i)) (X.length/64)) (.slice (some (.loc 5 0)) (X.length%64) cap') ((tagY T0 Xs i).length+X.length),t',0,false⟩,none,none,some ⟨rnL F0 Con0 (outR [2] 5) (u8s (X.drop (64*(X.length/64)))),t_uint8,cap'*1,true⟩],_⟩
      rw [rnL_id (ints_cl .u8 _ 0),sn.1,sn.2,← hlY,hrl]
      rw [hrl] at hcap'
      refine hT _ _ ?_
      refine aops_end ?_
      refine hK4 _ _ ?_
      clear hK4 hR4
      conv=>whnf
      refine ⟨Xs.length-(i+1),F0,ren0,by omega,ren0_ok _,fun c N1 _ _=>⟨_,_,wkR_of (by (repeat' apply And.intro)<;>first | trivial | exact ⟨_,rfl,tv_inc (n:=Xs.length) hi' (by omega),rfl⟩ | exact ⟨_,rfl,rfl,rfl⟩ | exact ⟨_,rfl,(hSt.rn' _ _ _).symm,hSt.stable.1 _⟩) (by (repeat' apply And.intro)<;>first | trivial | rfl | exact ⟨_,rfl,u8_blkR _ _ _ _ _ _ _,ints_cl _ _ _⟩ | exact ⟨_,rfl,rfl,rfl⟩) (by exact Nat.le_of_ble_eq_true rfl),⟨i+1,t0,t1,t',N1,hi',rfl,rfl,.inr ⟨by omega,cap',hcap',rfl⟩⟩⟩⟩
    | false=>
     obtain rfl:i=Xs.length:=by have:=of_decide_eq_false hlt; omega
     conv=>whnf
     refine hK _ _ ?_
     clear hK hR
     generalize hYY:tagY T0 Xs Xs.length=Y at *
     refine swp_cut fun K hK hR _=>?_
     refine aops_step fun T S hT hS=>?_
     conv=>whnf
     refine hT _ _ ?_
     refine aops_step fun T S hT hS=>?_
     conv=>whnf
     have hrest:restOf Y=[]:=List.eq_nil_of_length_eq_zero (by rw [restOf_len]; exact hm0)
     refine ⟨fun v _=>v=.agg (u8s (shaD Y)),fun c B hB hL=>by
      have:=sum_lent (b:=2) (htb (fun r o h=>hB r o (.inl h))) hL rfl (r:=.slice none 0 0) rfl (q:=none) (cap:=0) rfl sl_none (by decide)
      rw [← hrest] at this
      exact this,⟨.agg (u8s (shaD Y)),B0,ints_cl .u8 _ 0,rfl⟩,?_⟩
     rintro v N1 _ rfl N2 _
     refine hT _ _ ?_
     refine aops_step fun T S hT hS=>?_
     conv=>whnf
     refine hT _ _ ?_
     refine aops_end ?_
     refine hK _ _ ?_
     clear hK hR
     conv=>whnf
     intro c N2 _ _
     rfl
   ·conv=>whnf
    cases hlt:decide ((i:Int)<(Xs.length:Int)) with
    | true=>
     have hi':i<Xs.length:=by have:=of_decide_eq_true hlt; omega
     have hiS:i<Ss.length:=by omega
     have hel:(ones Ss)[i]?=some [Ss[i]]:=onesGet (List.getElem?_eq_getElem hiS)
     have hX:=hE i Ss[i] Xs[i] (List.getElem?_eq_getElem hiS) (List.getElem?_eq_getElem hi')
     have hYs:=tagY_succ T0 hi'
     have hYl:=tagY_le T0 Xs (i+1)
     generalize Xs[i]=X at *
     obtain ⟨pX,capX,eS,_,_,_⟩:=id hX
     have eS:=TV.one.inj eS
     rw [u8s_len] at eS
     rw [eS] at hel hX
     have hlY:(tagY T0 Xs (i+1)).length=(tagY T0 Xs i).length+X.length:=by rw [← hYs,List.length_append]
     obtain ⟨qa,hqa⟩:=sl_ext' hSt (by rw [hlen]; omega)
     subst hqa
     show swpC _ (Code.seq _ _) _ _ _
     refine swp_cut fun K4 hK4 hR4 _=>?_
     show swpC _ (Code.seq _ _) _ _ _
     refine swp_cut fun K3 hK3 hR3 _=>?_
     refine aops_step fun T S hT hS=>?_
     conv=>whnf
     rw [dec_idx (n:=Xs.length) hi']
     conv=>whnf
     refine hT _ _ ?_
     refine aops_step fun T S hT hS=>?_
     conv=>whnf
     refine ⟨_,ERead_l (Sl.one (i:=i) hSt hel),?_⟩
     refine hT _ _ ?_
     refine aops_step fun T S hT hS=>?_
     conv=>whnf
     refine hT _ _ ?_
     refine aops_end ?_
     refine hK3 _ _ ?_
     clear hK3 hR3
     iterate 2 (refine aops_step fun T S hT hS=>?_; (conv=>whnf); refine hT _ _ ?_)
     refine aops_step fun T S hT hS=>?_
     conv=>whnf
     have hrl0:=restOf_len (tagY T0 Xs i)
     refine ⟨_,CALL.lend (ms:=[some ⟨hcells (stateOf (tagY T0 Xs i)) (.slice (some (.loc 1 0)) (restOf (tagY T0 Xs i)).length cap) (tagY T0 Xs i).length,t2,0,false⟩,some ⟨u8s (restOf (tagY T0 Xs i)),t_uint8,cap*1,true⟩]) [2,5] (by decide) (fun b hb=>by
       simp only [List.mem_cons,List.not_mem_nil,or_false] at hb
       show b<6
       omega) rfl (write_nil (A:=A) (p:=none) (cap:=0) (X:=[]) (t:=0) (n:=0) (s:=begun8) hTb sl_none (by decide) (by decide)).1 (two_ms rfl rfl rfl) (fun c B hB hF=>by
       show CALL PG B f_sha_Hash_Write [.one (.ptr (some (.loc 0 0))),TV.rn (keepF [2,5]) c (inR [2,5]) (.one (.slice pX X.length capX))] _ _
       rw [hX.rn']
       exact write_rest (htb (fun r o h=>hB r o (.inl h))) (hX.mono (fun r o h=>hB r o (.inl h))) (by omega) (by omega) (by omega) (by omega) hcapR),(by
       obtain ⟨v,m',h⟩:=WrK2_ne (restOf (tagY T0 Xs i)) X (stateOf (tagY T0 Xs i)) ((tagY T0 Xs i).length+X.length)
       exact ⟨_,_,v,m',h,rfl,rfl⟩),?_⟩
     rintro v m' ⟨v0,ms',hcase,rfl,rfl⟩
     rcases hcase with ⟨hlt2,rfl,t',cap',N',hcap',rfl⟩ | ⟨hge,rfl,hcase⟩
     ·have sl:=state_less (Y:=tagY T0 Xs i) (X:=X) (by omega)
      rw [hYs] at sl
      have hrl:(restOf (tagY T0 Xs i)).length+X.length=(restOf (tagY T0 Xs (i+1))).length:=by rw [sl.2,List.length_append]
      show T (.tup []) ⟨[some ⟨List.replicate 32 (.int .u8 0),t0,0,false⟩,some ⟨u8s T0,t1,0,false⟩,some ⟨hcells (stateOf (tagY T0 Xs i)) (.slice (some (.loc 6 0)) ((restOf (tagY T0 Xs i)).length+X.length) cap') ((tagY T0 Xs i).length+X.length),t',0,false⟩,none,none,none,some ⟨rnL F0 Con0 (outR [2,5] 6) (u8s (restOf (tagY T0 Xs i)++X)),t_uint8,cap'*1,true⟩],_⟩
      rw [rnL_id (ints_cl .u8 _ 0),hrl,← sl.1,← sl.2,← hlY]
      rw [hrl] at hcap'
      have hr1:=restOf_len (tagY T0 Xs (i+1))
      refine hT _ _ ?_
      refine aops_end ?_
      refine hK4 _ _ ?_
      clear hK4 hR4
      conv=>whnf
      refine ⟨Xs.length-(i+1),F0,tp 5 6,by omega,tp_ok (by exact Nat.le_of_ble_eq_true rfl) (by exact Nat.le_of_ble_eq_true rfl),fun c N1 _ _=>⟨_,_,wkR_of (by (repeat' apply And.intro)<;>first | trivial | exact ⟨_,rfl,tv_inc (n:=Xs.length) hi' (by omega),rfl⟩ | exact ⟨_,rfl,rfl,rfl⟩ | exact ⟨_,rfl,(hSt.rn' _ _ _).symm,hSt.stable.1 _⟩) (by (repeat' apply And.intro)<;>first | trivial | rfl | exact ⟨_,rfl,u8_blkR _ _ _ _ _ _ _,ints_cl _ _ _⟩ | exact ⟨_,rfl,rfl,rfl⟩) (by exact Nat.le_of_ble_eq_true rfl),⟨i+1,t0,t1,t',N1,hi',rfl,rfl,.inr ⟨by omega,cap',hcap',rfl⟩⟩⟩⟩
     ·have sm:=state_more (Y:=tagY T0 Xs i) (X:=X) (by omega) (X.drop (64-(restOf (tagY T0 Xs i)).length)) (by rw [hrl0])
      rw [hYs] at sm
      have hr1:=restOf_len (tagY T0 Xs (i+1))
      rcases hcase with ⟨h0,t',N',rfl⟩ | ⟨h0,t',cap',N',hcap',rfl⟩
      ·rw [sm.2.2] at h0
       show T (.tup []) ⟨[some ⟨List.replicate 32 (.int .u8 0),t0,0,false⟩,some ⟨u8s T0,t1,0,false⟩,some ⟨hcells (runP (X.drop (64-(restOf (tagY T0 Xs i)).length)) (runP (restOf (tagY T0 Xs i)++X) (stateOf (tagY T0 Xs i)) 1) ((X.drop (64-(restOf (tagY T0 Xs i)).length)).length/64)) (.slice none 0 0) ((tagY T0 Xs i).length+X.length),t',0,false⟩,none,none,none,none],_⟩
       rw [sm.1,← hlY]
       refine hT _ _ ?_
       refine aops_end ?_
       refine hK4 _ _ ?_
       clear hK4 hR4
       conv=>whnf
       refine ⟨Xs.length-(i+1),F0,ren0,by omega,ren0_ok _,fun c N1 _ _=>⟨_,_,wkR_of (by (repeat' apply And.intro)<;>first | trivial | exact ⟨_,rfl,tv_inc (n:=Xs.length) hi' (by omega),rfl⟩ | exact ⟨_,rfl,rfl,rfl⟩ | exact ⟨_,rfl,(hSt.rn' _ _ _).symm,hSt.stable.1 _⟩) (by (repeat' apply And.intro)<;>first | trivial | rfl | exact ⟨_,rfl,u8_blkR _ _ _ _ _ _ _,ints_cl _ _ _⟩ | exact ⟨_,rfl,rfl,rfl⟩) (by exact Nat.le_of_ble_eq_true rfl),⟨i+1,t0,t1,t',N1,hi',rfl,rfl,.inl ⟨h0,rfl⟩⟩⟩⟩
      ·show T (.tup []) ⟨[some ⟨List.replicate 32 (.int .u8 0),t0,0,false⟩,some ⟨u8s T0,t1,0,false⟩,some ⟨hcells (runP (X.drop (64-(restOf (tagY T0 Xs i)).length)) (runP (restOf (tagY T0 Xs i)++X) (stateOf (tagY T0 Xs i)) 1) ((X.drop (64-(restOf (tagY T0 Xs i)).length)).length/64)) (.slice (some (.loc 7 0)) ((X.drop (64-(restOf (tagY T0 Xs i)).length)).length%64) cap') ((tagY T0 Xs i).length+X.length),t',0,false⟩,none,none,none,none,some ⟨rnL F0 Con0 (outR [2,5] 6) (u8s ((X.drop (64-(restOf (tagY T0 Xs i)).length)).drop (64*((X.drop (64-(restOf (tagY T0 Xs i)).length)).length/64)))),t_uint8,cap'*1,true⟩],_⟩
       rw [sm.2.2] at h0 hcap'
       rw [rnL_id (ints_cl .u8 _ 0),sm.1,sm.2.1,sm.2.2,← hr1,← hlY]
       rw [← hr1] at hcap'
       refine hT _ _ ?_
       refine aops_end ?_
       refine hK4 _ _ ?_
       clear hK4 hR4
       conv=>whnf
       refine ⟨Xs.length-(i+1),F0,tp 5 7,by omega,tp_ok (by exact Nat.le_of_ble_eq_true rfl) (by exact Nat.le_of_ble_eq_true rfl),fun c N1 _ _=>⟨_,_,wkR_of (by (repeat' apply And.intro)<;>first | trivial | exact ⟨_,rfl,tv_inc (n:=Xs.length) hi' (by omega),rfl⟩ | exact ⟨_,rfl,rfl,rfl⟩ | exact ⟨_,rfl,(hSt.rn' _ _ _).symm,hSt.stable.1 _⟩) (by (repeat' apply And.intro)<;>first | trivial | rfl | exact ⟨_,rfl,u8_blkR _ _ _ _ _ _ _,ints_cl _ _ _⟩ | exact ⟨_,rfl,rfl,rfl⟩) (by exact Nat.le_of_ble_eq_true rfl),⟨i+1,t0,t1,t',N1,hi',rfl,rfl,.inr ⟨h0,cap',hcap',rfl⟩⟩⟩⟩
    | false=>
     obtain rfl:i=Xs.length:=by have:=of_decide_eq_false hlt; omega
     conv=>whnf
     refine hK _ _ ?_
     clear hK hR
     generalize hYY:tagY T0 Xs Xs.length=Y at *
     refine swp_cut fun K hK hR _=>?_
     refine aops_step fun T S hT hS=>?_
     conv=>whnf
     refine hT _ _ ?_
     refine aops_step fun T S hT hS=>?_
     conv=>whnf
     refine ⟨fun v _=>v=.agg (u8s (shaD Y)),fun c B hB hL=>sum_lent (b:=2) (htb (fun r o h=>hB r o (.inl h))) hL rfl (r:=.slice (some (.loc 5 0)) (restOf Y).length cap) rfl (q:=some (.ext ⟨c.ι 5,0,none⟩)) (cap:=cap) rfl
      (sl_lent (b:=5) (o:=0) (L:=ones (u8s (restOf Y))) (post:=[]) hL rfl (ints_cl _ _ 0) (by rw [ones_flat]; exact (List.append_nil _).symm) (by rw [u8s_len]) (by rw [u8s_len]; exact hcapR) (by rw [u8s_len,restOf_len]; omega) (ones_es _)) (by rw [restOf_len]; omega),⟨.agg (u8s (shaD Y)),B0,ints_cl .u8 _ 0,rfl⟩,?_⟩
     rintro v N1 _ rfl N2 _
     refine hT _ _ ?_
     refine aops_step fun T S hT hS=>?_
     conv=>whnf
     refine hT _ _ ?_
     refine aops_end ?_
     refine hK _ _ ?_
     clear hK hR
     conv=>whnf
     intro c N2 _ _
     rfl
  ·refine ⟨Xs.length,F0,ren0,ren0_ok _,fun c N1 _ _=>⟨_,_,wkR_of (by (repeat' apply And.intro)<;>first | trivial | exact ⟨_,rfl,rfl,rfl⟩ | exact ⟨_,rfl,(hSt.rn' _ _ _).symm,hSt.stable.1 _⟩) (by (repeat' apply And.intro)<;>first | trivial | rfl | exact ⟨_,rfl,u8_blkR _ _ _ _ _ _ _,ints_cl _ _ _⟩ | exact ⟨_,rfl,hb0 _ _ _,rfl⟩ | exact ⟨_,rfl,rfl,rfl⟩) (by exact Nat.le_of_ble_eq_true rfl),⟨0,_,_,t2,N1,Nat.zero_le _,rfl,rfl,.inl ⟨by rw [hY0,List.length_append]; omega,rfl⟩⟩⟩⟩
 ·rw [hX'] at h0'
  exact absurd rfl h0'

end Go.Hv

namespace Go.Hv
open Go.Ev

theorem bor_comm (a b:Int):bor a b=bor b a:=by unfold bor; rw [BitVec.or_comm]
theorem bxor_comm (a b:Int):bxor a b=bxor b a:=by unfold bxor; rw [BitVec.xor_comm]

theorem bor_add {a b:Int} (k:Nat) (ha:0≤a) (ha2:a<2^k) (hb:0≤b) (hs:a+2^k*b<4294967296):bor (2^k*b) a=2^k*b+a:=by
 obtain ⟨a,rfl⟩:=Int.eq_ofNat_of_zero_le ha
 obtain ⟨b,rfl⟩:=Int.eq_ofNat_of_zero_le hb
 have ha3:a<2^k:=by exact_mod_cast ha2
 have e:(2^k*(b:Int))=((2^k*b:Nat):Int):=by rw [Int.natCast_mul,Int.natCast_pow]; rfl
 have hs2:a+2^k*b<4294967296:=by rw [e] at hs; generalize 2^k*b=t at *; omega
 unfold bor
 change IntKind.u32.wrap (BitVec.ofInt 32 _ ||| BitVec.ofInt 32 _).toNat=_
 rw [e,BitVec.ofInt_natCast,BitVec.ofInt_natCast]
 simp only [BitVec.toNat_or,BitVec.toNat_ofNat]
 rw [Nat.mod_eq_of_lt (by generalize 2^k*b=t at *; omega),Nat.mod_eq_of_lt (by generalize 2^k*b=t at *; omega),← Nat.two_pow_add_eq_or_of_lt ha3]
 simp only [IntKind.wrap,IntKind.signed,IntKind.bits]
 generalize 2^k*b=t at *
 simp
 omega

theorem word4_add {a b c d:Int} (ha:0≤a∧a<256) (hb:0≤b∧b<256) (hc:0≤c∧c<256) (hd:0≤d∧d<256) :
  wadd (wadd (wadd (a%4294967296*16777216%4294967296) (b%4294967296*65536%4294967296)) (c%4294967296*256%4294967296)) (d%4294967296)=word4 a b c d:=by
 have e1:a%4294967296*2^24%4294967296=2^24*a:=by omega
 have e2:b%4294967296*2^16%4294967296=65536*b:=by omega
 have e3:c%4294967296*2^8%4294967296=256*c:=by omega
 have e4:d%4294967296=d:=by omega
 unfold word4
 rw [e1,e2,e3,e4,bor_add 24 (by omega) (by omega) ha.1 (by omega)]
 rw [show (2:Int)^24*a+65536*b=2^16*(256*a+b) by omega,bor_add 16 (by omega) (by omega) (by omega) (by omega)]
 rw [show (2:Int)^16*(256*a+b)+256*c=2^8*(65536*a+256*b+c) by omega,bor_add 8 (by omega) (by omega) (by omega) (by omega)]
 unfold wadd
 omega

theorem rrot_ok:∀ A,okCode (HHo A fun _=>none) F_ref01_rot.ntmps (bodyOf F_ref01_rot)=true:=fun _=>by kernel_rfl

theorem rrot7_fn {x:Int}:Ev.Fn PG f_ref01_rot [.one (w32 x),.one (.int .i64 7)] (.one (w32 (rotw 25 x))):=by
 refine fn_startH (fun _=>none) h_ref01_rot rfl (by kernel_rfl) rrot_ok rfl rfl fun A=>?_
 have hc:rotw 25 x=bor (x.fdiv (2^7)) (x*2^25%4294967296):=by unfold rotw; rw [bor_comm]
 rw [hc]
 refine swp_cut fun K hK hR _=>?_
 conv=>whnf
 refine hK _ _ ?_
 clear hK hR
 refine swp_cut fun K hK hR _=>?_
 conv=>whnf
 refine hK _ _ ?_
 conv=>whnf
 intro c N _ _
 rfl

theorem rrot18_fn {x:Int}:Ev.Fn PG f_ref01_rot [.one (w32 x),.one (.int .i64 18)] (.one (w32 (rotw 14 x))):=by
 refine fn_startH (fun _=>none) h_ref01_rot rfl (by kernel_rfl) rrot_ok rfl rfl fun A=>?_
 have hc:rotw 14 x=bor (x.fdiv (2^18)) (x*2^14%4294967296):=by unfold rotw; rw [bor_comm]
 rw [hc]
 refine swp_cut fun K hK hR _=>?_
 conv=>whnf
 refine hK _ _ ?_
 clear hK hR
 refine swp_cut fun K hK hR _=>?_
 conv=>whnf
 refine hK _ _ ?_
 conv=>whnf
 intro c N _ _
 rfl

theorem rrot17_fn {x:Int}:Ev.Fn PG f_ref01_rot [.one (w32 x),.one (.int .i64 17)] (.one (w32 (rotw 15 x))):=by
 refine fn_startH (fun _=>none) h_ref01_rot rfl (by kernel_rfl) rrot_ok rfl rfl fun A=>?_
 have hc:rotw 15 x=bor (x.fdiv (2^17)) (x*2^15%4294967296):=by unfold rotw; rw [bor_comm]
 rw [hc]
 refine swp_cut fun K hK hR _=>?_
 conv=>whnf
 refine hK _ _ ?_
 clear hK hR
 refine swp_cut fun K hK hR _=>?_
 conv=>whnf
 refine hK _ _ ?_
 conv=>whnf
 intro c N _ _
 rfl

theorem rrot19_fn {x:Int}:Ev.Fn PG f_ref01_rot [.one (w32 x),.one (.int .i64 19)] (.one (w32 (rotw 13 x))):=by
 refine fn_startH (fun _=>none) h_ref01_rot rfl (by kernel_rfl) rrot_ok rfl rfl fun A=>?_
 have hc:rotw 13 x=bor (x.fdiv (2^19)) (x*2^13%4294967296):=by unfold rotw; rw [bor_comm]
 rw [hc]
 refine swp_cut fun K hK hR _=>?_
 conv=>whnf
 refine hK _ _ ?_
 clear hK hR
 refine swp_cut fun K hK hR _=>?_
 conv=>whnf
 refine hK _ _ ?_
 conv=>whnf
 intro c N _ _
 rfl

theorem rrot6_fn {x:Int}:Ev.Fn PG f_ref01_rot [.one (w32 x),.one (.int .i64 6)] (.one (w32 (rotw 26 x))):=by
 refine fn_startH (fun _=>none) h_ref01_rot rfl (by kernel_rfl) rrot_ok rfl rfl fun A=>?_
 have hc:rotw 26 x=bor (x.fdiv (2^6)) (x*2^26%4294967296):=by unfold rotw; rw [bor_comm]
 rw [hc]
 refine swp_cut fun K hK hR _=>?_
 conv=>whnf
 refine hK _ _ ?_
 clear hK hR
 refine swp_cut fun K hK hR _=>?_
 conv=>whnf
 refine hK _ _ ?_
 conv=>whnf
 intro c N _ _
 rfl

theorem rrot11_fn {x:Int}:Ev.Fn PG f_ref01_rot [.one (w32 x),.one (.int .i64 11)] (.one (w32 (rotw 21 x))):=by
 refine fn_startH (fun _=>none) h_ref01_rot rfl (by kernel_rfl) rrot_ok rfl rfl fun A=>?_
 have hc:rotw 21 x=bor (x.fdiv (2^11)) (x*2^21%4294967296):=by unfold rotw; rw [bor_comm]
 rw [hc]
 refine swp_cut fun K hK hR _=>?_
 conv=>whnf
 refine hK _ _ ?_
 clear hK hR
 refine swp_cut fun K hK hR _=>?_
 conv=>whnf
 refine hK _ _ ?_
 conv=>whnf
 intro c N _ _
 rfl

theorem rrot25_fn {x:Int}:Ev.Fn PG f_ref01_rot [.one (w32 x),.one (.int .i64 25)] (.one (w32 (rotw 7 x))):=by
 refine fn_startH (fun _=>none) h_ref01_rot rfl (by kernel_rfl) rrot_ok rfl rfl fun A=>?_
 have hc:rotw 7 x=bor (x.fdiv (2^25)) (x*2^7%4294967296):=by unfold rotw; rw [bor_comm]
 rw [hc]
 refine swp_cut fun K hK hR _=>?_
 conv=>whnf
 refine hK _ _ ?_
 clear hK hR
 refine swp_cut fun K hK hR _=>?_
 conv=>whnf
 refine hK _ _ ?_
 conv=>whnf
 intro c N _ _
 rfl

theorem rrot2_fn {x:Int}:Ev.Fn PG f_ref01_rot [.one (w32 x),.one (.int .i64 2)] (.one (w32 (rotw 30 x))):=by
 refine fn_startH (fun _=>none) h_ref01_rot rfl (by kernel_rfl) rrot_ok rfl rfl fun A=>?_
 have hc:rotw 30 x=bor (x.fdiv (2^2)) (x*2^30%4294967296):=by unfold rotw; rw [bor_comm]
 rw [hc]
 refine swp_cut fun K hK hR _=>?_
 conv=>whnf
 refine hK _ _ ?_
 clear hK hR
 refine swp_cut fun K hK hR _=>?_
 conv=>whnf
 refine hK _ _ ?_
 conv=>whnf
 intro c N _ _
 rfl

theorem rrot13_fn {x:Int}:Ev.Fn PG f_ref01_rot [.one (w32 x),.one (.int .i64 13)] (.one (w32 (rotw 19 x))):=by
 refine fn_startH (fun _=>none) h_ref01_rot rfl (by kernel_rfl) rrot_ok rfl rfl fun A=>?_
 have hc:rotw 19 x=bor (x.fdiv (2^13)) (x*2^19%4294967296):=by unfold rotw; rw [bor_comm]
 rw [hc]
 refine swp_cut fun K hK hR _=>?_
 conv=>whnf
 refine hK _ _ ?_
 clear hK hR
 refine swp_cut fun K hK hR _=>?_
 conv=>whnf
 refine hK _ _ ?_
 conv=>whnf
 intro c N _ _
 rfl

theorem rrot22_fn {x:Int}:Ev.Fn PG f_ref01_rot [.one (w32 x),.one (.int .i64 22)] (.one (w32 (rotw 10 x))):=by
 refine fn_startH (fun _=>none) h_ref01_rot rfl (by kernel_rfl) rrot_ok rfl rfl fun A=>?_
 have hc:rotw 10 x=bor (x.fdiv (2^22)) (x*2^10%4294967296):=by unfold rotw; rw [bor_comm]
 rw [hc]
 refine swp_cut fun K hK hR _=>?_
 conv=>whnf
 refine hK _ _ ?_
 clear hK hR
 refine swp_cut fun K hK hR _=>?_
 conv=>whnf
 refine hK _ _ ?_
 conv=>whnf
 intro c N _ _
 rfl

theorem tab_one {A:Base} {g:Nat} (h:ERead A true 64 ⟨g,0,none⟩ (.agg (tabK.map w32))) {t:Nat} (ht:t<64):ERead A false 1 ((⟨g,0,none⟩:Addr).add (t*1)) (.one (w32 (tabK.getD t 0))):=by
 obtain ⟨l,h1,h2,h3,h4⟩:=h
 obtain rfl:=TV.agg.inj h4
 have hl:(tabK.map w32)[t]?=some (w32 (tabK.getD t 0)):=by
  rw [List.getElem?_map,List.getD_eq_getElem?_getD,List.getElem?_eq_getElem (show t<tabK.length from ht)]
  rfl
 have:=h2 t _ hl
 rw [Nat.mul_one]
 exact ⟨_,this,rfl,rfl⟩

def Tab0 (A:Base):Prop:=ERead A true 64 ⟨g_ref01_table,0,none⟩ (.agg (tabK.map w32))

def pcL (P:List Int) (j:Nat) (i:Nat):Int:=((P.drop (64*j)).take 64).getD i 0

theorem pcL_take (P:List Int) {j i:Nat} (h:i<64) (hl:64*j+i<P.length):takeAt (u8s P) (0+(64*j+i)*1) 1=some [.int .u8 (pcL P j i)]:=by
 rw [u8_take P hl]
 unfold pcL
 rw [List.getD_eq_getElem?_getD,List.getElem?_take_of_lt h,List.getElem?_drop,List.getElem?_eq_getElem hl]
 rfl

theorem pcL_u8 {P:List Int} (hP:∀ z∈P,0≤z∧z<256) (j i:Nat):0≤pcL P j i∧pcL P j i<256:=by
 unfold pcL
 rw [List.getD_eq_getElem?_getD]
 cases h:((P.drop (64*j)).take 64)[i]? with
 | none=>exact ⟨by decide,by decide⟩
 | some z=>exact hP z (List.mem_of_mem_drop (List.mem_of_mem_take (List.mem_of_getElem? h)))

def OfI (P:List Int) (k:Nat) (e:Env) (m:HM):Prop:=
 ∃ (j t0 t2 g cap:Nat) (N:Base),64*j≤P.length∧k=P.length-64*j ∧
  e=[(5,.one (.int .i64 ((64*j:Nat):Int))),(4,.one (.ptr (some (.loc 2 0)))),(3,.one (.slice (some (.loc 1 0)) P.length cap)),(2,.one (.ptr (some (.loc 0 0))))]∧m=⟨[d0 t0,some ⟨u8s P,t_uint8,g,true⟩,some ⟨(runP P begun8 j).cells,t2,0,false⟩],N⟩

def OfI1 (P:List Int) (s:S8) (j:Nat) (k:Nat) (e:Env) (m:HM):Prop:=
 ∃ (t t0 t2 t3 g cap:Nat) (N:Base),t≤16∧k=16-t ∧
  e=[(7,.one (.int .i64 (t:Int))),(6,.one (.ptr (some (.loc 3 0)))),(5,.one (.int .i64 ((64*j:Nat):Int))),(4,.one (.ptr (some (.loc 2 0)))),(3,.one (.slice (some (.loc 1 0)) P.length cap)),(2,.one (.ptr (some (.loc 0 0))))]∧m=⟨[d0 t0,some ⟨u8s P,t_uint8,g,true⟩,some ⟨s.cells,t2,0,false⟩,some ⟨wrow (pcL P j) t,t3,0,false⟩],N⟩

def OfI2 (P:List Int) (s:S8) (j:Nat) (k:Nat) (e:Env) (m:HM):Prop:=
 ∃ (t t0 t2 t3 g cap:Nat) (N:Base),16≤t∧t≤64∧k=64-t ∧
  e=[(8,.one (.int .i64 (t:Int))),(6,.one (.ptr (some (.loc 3 0)))),(5,.one (.int .i64 ((64*j:Nat):Int))),(4,.one (.ptr (some (.loc 2 0)))),(3,.one (.slice (some (.loc 1 0)) P.length cap)),(2,.one (.ptr (some (.loc 0 0))))]∧m=⟨[d0 t0,some ⟨u8s P,t_uint8,g,true⟩,some ⟨s.cells,t2,0,false⟩,some ⟨wrow (pcL P j) t,t3,0,false⟩],N⟩

def OfI3 (P:List Int) (s:S8) (j:Nat) (k:Nat) (e:Env) (m:HM):Prop:=
 ∃ (t t0 t2 t3 t4 g cap:Nat) (N:Base),t≤64∧k=64-t ∧
  e=[(12,.one (.int .i64 (t:Int))),(11,.one (.ptr (some (.loc 4 0)))),(6,.one (.ptr (some (.loc 3 0)))),(5,.one (.int .i64 ((64*j:Nat):Int))),(4,.one (.ptr (some (.loc 2 0)))),(3,.one (.slice (some (.loc 1 0)) P.length cap)),(2,.one (.ptr (some (.loc 0 0))))] ∧
  m=⟨[d0 t0,some ⟨u8s P,t_uint8,g,true⟩,some ⟨s.cells,t2,0,false⟩,some ⟨wrow (pcL P j) 64,t3,0,false⟩,some ⟨(rounds (pcL P j) s t).cells,t4,0,false⟩],N⟩

def OfI5 (s:S8) (k:Nat) (e:Env) (m:HM):Prop:=
 ∃ (i t0 t2 t3:Nat) (N:Base),i≤32∧k=32-i ∧
  e=[(18,.one (.int .i64 (i:Int))),(17,.one (.ptr (some (.loc 3 0)))),(4,.one (.ptr (some (.loc 2 0)))),(2,.one (.ptr (some (.loc 0 0))))]∧m=⟨[d0 t0,none,some ⟨s.cells,t2,0,false⟩,some ⟨drow s i,t3,0,false⟩],N⟩

theorem drow_put1 (s:S8) {i:Nat} (hi:i<32):putAt (drow s i) (0+i*1) [.int .u8 ((s.get (i/4)).fdiv (2^(min (24-8*(i%4)) 32))%256)]=some (drow s (i+1)):=by
 refine rowPut (by rw [List.length_map,dgl_len]) hi ?_
 simp only [u8s,dgl,List.getElem?_map,List.getElem?_range hi,Option.map_some]

theorem get_take0 (s:S8) {i:Nat} (hi:i<8):takeAt s.cells (0+i*1) 1=some [w32 (s.get i)]:=by
 rw [Nat.zero_add]
 exact get_take s hi

theorem ofr_ok:∀ A,okCode (HHo A fun _=>none) F_ref01_Of.ntmps (bodyOf F_ref01_Of)=true:=fun _=>by kernel_rfl

set_option maxHeartbeats 4000000 in
set_option maxRecDepth 100000 in
theorem ofr_hc {A:Base} {q:TV} {X:List Int} (hTb:Tab0 A) (hs:Sl A 1 q (ones (u8s X))) (hX:X.length≤140737488352000) (hX8:∀ z∈X,0≤z∧z<256):HC PG A f_ref01_Of [q] fun v _=>v=.agg (u8s (shaD X)):=by
 refine hc_start (fun _=>none) h_ref01_Of rfl (by kernel_rfl) (ofr_ok A) (closedTs_iff.2 fun v hv=>by
  simp only [List.mem_singleton] at hv
  subst hv
  exact hs.stable.1 0) ?_
 have hPl:=padL_len X
 have hP64:=padL_64 X
 have hPm:(padL X).length≤140737488352200:=by rw [hPl]; unfold zc; omega
 have hP8:∀ z∈padL X,0≤z∧z<256:=fun z hz=>by
  unfold padL C1 at hz
  simp only [List.mem_append,List.mem_singleton,List.mem_replicate] at hz
  rcases hz with ((hz | rfl) | ⟨_,rfl⟩) | hz
  ·exact hX8 z hz
  ·decide
  ·decide
  ·obtain ⟨i,_,rfl⟩:=List.mem_map.1 hz
   unfold bt
   omega
 have cp:=fun (B:Base) (hB:Base.le A B)=>padded_hco (hs.mono hB) hX
 rw [← pad_sha X]
 clear hPl
 generalize padL X=P at *
 refine swp_cut fun K hK hR _=>?_
 conv=>whnf
 refine hK _ _ ?_
 clear hK hR
 refine swp_cut fun K hK hR _=>?_
 refine aops_step fun T S hT hS=>?_
 conv=>whnf
 refine hT _ _ ?_
 refine aops_step fun T S hT hS=>?_
 conv=>whnf
 refine ⟨fun n cap k _=>n=P.length∧P.length≤cap∧k=⟨u8s P,t_uint8,cap*1,true⟩,fun c B hB hL=>by
  have:=cp B (fun r o h=>hB r o (.inl h))
  show HCO PG B f_ref01_Padded [TV.ext c q] _
  rw [hs.stable.2.2 c]
  exact this,⟨P.length,P.length,⟨u8s P,t_uint8,P.length*1,true⟩,B0,ints_cl _ _ 0,rfl,Nat.le_refl _,rfl⟩,?_⟩
 rintro n cap k N' _ ⟨rfl,hcap,rfl⟩ N1 _
 conv=>whnf
 refine hT _ _ ?_
 refine aops_step fun T S hT hS=>?_
 conv=>whnf
 refine hT _ _ ?_
 refine aops_end ?_
 refine hK _ _ ?_
 clear hK hR
 refine swp_cut fun K hK hR _=>?_
 conv=>whnf
 refine hK _ _ ?_
 clear hK hR
 refine swp_cut fun K hK hR _=>?_
 refine swp_cut fun K2 hK2 hR2 _=>?_
 conv=>whnf
 refine hK2 _ _ ?_
 clear hK2 hR2
 conv=>whnf
 refine .inr (loop_invC (gH A _) (OfI P) ?_ ?_)
 ·intro k' e' m' hI
  obtain ⟨j,t0,t2,g,cap,N,hj,rfl,rfl,rfl⟩:=hI
  conv=>whnf
  cases hlt:decide (((64*j:Nat):Int)<(P.length:Int)) with
  | true=>
   have hjl:64*j+64≤P.length:=by have:=of_decide_eq_true hlt; omega
   have hmix:runP P begun8 (j+1)=mix (pcL P j) (runP P begun8 j):=rfl
   generalize hsj:runP P begun8 j=s at *
   show swpC _ (Code.seq _ _) _ _ _
   refine swp_cut fun K6 hK6 hR6 _=>?_
   refine swp_block ?_
   refine swp_cut fun K hK hR _=>?_
   conv=>whnf
   refine hK _ _ ?_
   clear hK hR
   refine swp_cut fun K7 hK7 hR7 _=>?_
   refine swp_cut fun K2 hK2 hR2 _=>?_
   conv=>whnf
   refine hK2 _ _ ?_
   clear hK2 hR2
   conv=>whnf
   refine .inr (loop_invC (gH A _) (OfI1 P s j) ?_ ?_)
   ·intro k' e' m' hI
    obtain ⟨t,t0,t2,t3,g,cap,N,ht16,rfl,rfl,rfl⟩:=hI
    conv=>whnf
    cases hlt:decide ((t:Int)<16) with
    | true=>
     have ht:t<16:=by have:=of_decide_eq_true hlt; omega
     show swpC _ (Code.seq _ _) _ _ _
     refine swp_cut fun K4 hK4 hR4 _=>?_
     refine swp_block ?_
     have e4:wr .i64 (4*(t:Int))=.int .i64 ((4*t:Nat):Int):=by
      simp only [wr]
      rw [wrapN (n:=4*t) (by omega) (by omega)]
     have ea:wr .i64 (((64*j:Nat):Int)+((4*t:Nat):Int))=.int .i64 ((64*j+4*t:Nat):Int):=by
      simp only [wr]
      rw [wrapN (n:=64*j+4*t) (by omega) (by omega)]
     have ea1:wr .i64 (((64*j+4*t:Nat):Int)+1)=.int .i64 ((64*j+(4*t+1):Nat):Int):=by
      simp only [wr]
      rw [wrapN (n:=64*j+(4*t+1)) (by omega) (by omega)]
     have ea2:wr .i64 (((64*j+4*t:Nat):Int)+2)=.int .i64 ((64*j+(4*t+2):Nat):Int):=by
      simp only [wr]
      rw [wrapN (n:=64*j+(4*t+2)) (by omega) (by omega)]
     have ea3:wr .i64 (((64*j+4*t:Nat):Int)+3)=.int .i64 ((64*j+(4*t+3):Nat):Int):=by
      simp only [wr]
      rw [wrapN (n:=64*j+(4*t+3)) (by omega) (by omega)]
     have b0:64*j+4*t<P.length:=by omega
     have b1:64*j+(4*t+1)<P.length:=by omega
     have b2:64*j+(4*t+2)<P.length:=by omega
     have b3:64*j+(4*t+3)<P.length:=by omega
     have hw4:=word4_add (pcL_u8 hP8 j (4*t)) (pcL_u8 hP8 j (4*t+1)) (pcL_u8 hP8 j (4*t+2)) (pcL_u8 hP8 j (4*t+3))
     have ht64:t<64:=by omega
     iterate 4 (refine aops_step fun T S hT hS=>?_; (conv=>whnf); refine hT _ _ ?_)
     refine aops_step fun T S hT hS=>?_
     conv=>whnf
     rw [e4]
     refine hT _ _ ?_
     refine aops_step fun T S hT hS=>?_
     conv=>whnf
     rw [ea]
     refine hT _ _ ?_
     refine aops_step fun T S hT hS=>?_
     conv=>whnf
     rw [dec_idx (n:=P.length) b0]
     conv=>whnf
     refine hT _ _ ?_
     refine aops_step fun T S hT hS=>?_
     conv=>whnf
     conv in (takeAt _ _ _)=>change takeAt (u8s P) (0+(64*j+4*t)*1) 1; rw [pcL_take P (by omega) b0]
     conv=>whnf
     refine hT _ _ ?_
     iterate 5 (refine aops_step fun T S hT hS=>?_; (conv=>whnf); refine hT _ _ ?_)
     refine aops_step fun T S hT hS=>?_
     conv=>whnf
     rw [e4]
     refine hT _ _ ?_
     refine aops_step fun T S hT hS=>?_
     conv=>whnf
     rw [ea]
     refine hT _ _ ?_
     refine aops_step fun T S hT hS=>?_
     conv=>whnf
     rw [ea1]
     refine hT _ _ ?_
     refine aops_step fun T S hT hS=>?_
     conv=>whnf
     rw [dec_idx (n:=P.length) b1]
     conv=>whnf
     refine hT _ _ ?_
     refine aops_step fun T S hT hS=>?_
     conv=>whnf
     conv in (takeAt _ _ _)=>change takeAt (u8s P) (0+(64*j+(4*t+1))*1) 1; rw [pcL_take P (by omega) b1]
     conv=>whnf
     refine hT _ _ ?_
     iterate 6 (refine aops_step fun T S hT hS=>?_; (conv=>whnf); refine hT _ _ ?_)
     refine aops_step fun T S hT hS=>?_
     conv=>whnf
     rw [e4]
     refine hT _ _ ?_
     refine aops_step fun T S hT hS=>?_
     conv=>whnf
     rw [ea]
     refine hT _ _ ?_
     refine aops_step fun T S hT hS=>?_
     conv=>whnf
     rw [ea2]
     refine hT _ _ ?_
     refine aops_step fun T S hT hS=>?_
     conv=>whnf
     rw [dec_idx (n:=P.length) b2]
     conv=>whnf
     refine hT _ _ ?_
     refine aops_step fun T S hT hS=>?_
     conv=>whnf
     conv in (takeAt _ _ _)=>change takeAt (u8s P) (0+(64*j+(4*t+2))*1) 1; rw [pcL_take P (by omega) b2]
     conv=>whnf
     refine hT _ _ ?_
     iterate 6 (refine aops_step fun T S hT hS=>?_; (conv=>whnf); refine hT _ _ ?_)
     refine aops_step fun T S hT hS=>?_
     conv=>whnf
     rw [e4]
     refine hT _ _ ?_
     refine aops_step fun T S hT hS=>?_
     conv=>whnf
     rw [ea]
     refine hT _ _ ?_
     refine aops_step fun T S hT hS=>?_
     conv=>whnf
     rw [ea3]
     refine hT _ _ ?_
     refine aops_step fun T S hT hS=>?_
     conv=>whnf
     rw [dec_idx (n:=P.length) b3]
     conv=>whnf
     refine hT _ _ ?_
     refine aops_step fun T S hT hS=>?_
     conv=>whnf
     conv in (takeAt _ _ _)=>change takeAt (u8s P) (0+(64*j+(4*t+3))*1) 1; rw [pcL_take P (by omega) b3]
     conv=>whnf
     refine hT _ _ ?_
     iterate 2 (refine aops_step fun T S hT hS=>?_; (conv=>whnf); refine hT _ _ ?_)
     refine aops_step fun T S hT hS=>?_
     conv=>whnf
     rw [dec_idx (n:=64) ht64]
     conv=>whnf
     refine hT _ _ ?_
     refine aops_step fun T S hT hS=>?_
     conv=>whnf
     conv in (putAt _ _ _)=>change putAt (wrow (pcL P j) t) (0+t*1) [w32 (wadd (wadd (wadd (pcL P j (4*t)%4294967296*16777216%4294967296) (pcL P j (4*t+1)%4294967296*65536%4294967296)) (pcL P j (4*t+2)%4294967296*256%4294967296)) (pcL P j (4*t+3)%4294967296))]; rw [hw4,← Wd_lo (pcL P j) ht,wrow_put (pcL P j) ht64]
     conv=>whnf
     refine hT _ _ ?_
     refine aops_end ?_
     refine hK4 _ _ ?_
     clear hK4 hR4
     conv=>whnf
     refine ⟨16-(t+1),F0,by omega,fun c N1 _ _=>⟨_,_,wk_of (by (repeat' apply And.intro)<;>first | trivial | exact ⟨_,rfl,tv_inc (n:=16) ht (by omega),rfl⟩ | exact ⟨_,rfl,rfl,rfl⟩) (by (repeat' apply And.intro)<;>first | trivial | rfl | exact ⟨_,rfl,wrow_blk (pcL P j) (t+1) _ _ _,wrow_cl (pcL P j) (t+1) _⟩ | exact ⟨_,rfl,u8_blk _ _ _ _ _ _,ints_cl _ _ _⟩ | exact ⟨_,rfl,rfl,rfl⟩) (by exact Nat.le_of_ble_eq_true rfl) (by exact Nat.le_of_ble_eq_true rfl),⟨t+1,t0,t2,t3,g,cap,N1,ht,rfl,rfl,rfl⟩⟩⟩
    | false=>
     obtain rfl:t=16:=by have:=of_decide_eq_false hlt; omega
     conv=>whnf
     refine hK7 _ _ ?_
     clear hK7 hR7
     refine swp_cut fun K7 hK7 hR7 _=>?_
     refine swp_cut fun K2 hK2 hR2 _=>?_
     conv=>whnf
     refine hK2 _ _ ?_
     clear hK2 hR2
     conv=>whnf
     refine .inr (loop_invC (gH A _) (OfI2 P s j) ?_ ?_)
     ·intro k' e' m' hI
      obtain ⟨t,t0,t2,t3,g,cap,N,ht16,ht64,rfl,rfl,rfl⟩:=hI
      conv=>whnf
      cases hlt:decide ((t:Int)<64) with
      | true=>
       have ht:t<64:=by have:=of_decide_eq_true hlt; omega
       have hge:¬ t<16:=by omega
       have e15:wr .i64 ((t:Int)-15)=.int .i64 ((t-15:Nat):Int):=by
        simp only [wr]
        rw [wrapN (n:=t-15) (by omega) (by omega)]
       have h15:t-15<64:=by omega
       have l15:t-15<t:=by omega
       have e2:wr .i64 ((t:Int)-2)=.int .i64 ((t-2:Nat):Int):=by
        simp only [wr]
        rw [wrapN (n:=t-2) (by omega) (by omega)]
       have h2:t-2<64:=by omega
       have l2:t-2<t:=by omega
       have e16:wr .i64 ((t:Int)-16)=.int .i64 ((t-16:Nat):Int):=by
        simp only [wr]
        rw [wrapN (n:=t-16) (by omega) (by omega)]
       have h16:t-16<64:=by omega
       have l16:t-16<t:=by omega
       have e7:wr .i64 ((t:Int)-7)=.int .i64 ((t-7:Nat):Int):=by
        simp only [wr]
        rw [wrapN (n:=t-7) (by omega) (by omega)]
       have h7:t-7<64:=by omega
       have l7:t-7<t:=by omega
       show swpC _ (Code.seq _ _) _ _ _
       refine swp_cut fun K4 hK4 hR4 _=>?_
       refine swp_block ?_
       refine swp_cut fun K3 hK3 hR3 _=>?_
       refine aops_step fun T S hT hS=>?_
       conv=>whnf
       refine hT _ _ ?_
       refine aops_step fun T S hT hS=>?_
       conv=>whnf
       rw [e15]
       refine hT _ _ ?_
       refine aops_step fun T S hT hS=>?_
       conv=>whnf
       rw [dec_idx (n:=64) h15]
       conv=>whnf
       refine hT _ _ ?_
       refine aops_step fun T S hT hS=>?_
       conv=>whnf
       conv in (takeAt _ _ _)=>change takeAt (wrow (pcL P j) t) (0+(t-15)*1) 1; rw [wrow_take (pcL P j) l15 ht64]
       conv=>whnf
       refine hT _ _ ?_
       refine aops_step fun T S hT hS=>?_
       conv=>whnf
       refine ⟨_,rrot7_fn,rfl,?_⟩
       refine hT _ _ ?_
       refine aops_step fun T S hT hS=>?_
       conv=>whnf
       refine hT _ _ ?_
       refine aops_step fun T S hT hS=>?_
       conv=>whnf
       rw [e15]
       refine hT _ _ ?_
       refine aops_step fun T S hT hS=>?_
       conv=>whnf
       rw [dec_idx (n:=64) h15]
       conv=>whnf
       refine hT _ _ ?_
       refine aops_step fun T S hT hS=>?_
       conv=>whnf
       conv in (takeAt _ _ _)=>change takeAt (wrow (pcL P j) t) (0+(t-15)*1) 1; rw [wrow_take (pcL P j) l15 ht64]
       conv=>whnf
       refine hT _ _ ?_
       refine aops_step fun T S hT hS=>?_
       conv=>whnf
       refine ⟨_,rrot18_fn,rfl,?_⟩
       refine hT _ _ ?_
       iterate 2 (refine aops_step fun T S hT hS=>?_; (conv=>whnf); refine hT _ _ ?_)
       refine aops_step fun T S hT hS=>?_
       conv=>whnf
       rw [e15]
       refine hT _ _ ?_
       refine aops_step fun T S hT hS=>?_
       conv=>whnf
       rw [dec_idx (n:=64) h15]
       conv=>whnf
       refine hT _ _ ?_
       refine aops_step fun T S hT hS=>?_
       conv=>whnf
       conv in (takeAt _ _ _)=>change takeAt (wrow (pcL P j) t) (0+(t-15)*1) 1; rw [wrow_take (pcL P j) l15 ht64]
       conv=>whnf
       refine hT _ _ ?_
       iterate 3 (refine aops_step fun T S hT hS=>?_; (conv=>whnf); refine hT _ _ ?_)
       refine aops_end ?_
       refine hK3 _ _ ?_
       clear hK3 hR3
       refine swp_cut fun K3 hK3 hR3 _=>?_
       refine aops_step fun T S hT hS=>?_
       conv=>whnf
       refine hT _ _ ?_
       refine aops_step fun T S hT hS=>?_
       conv=>whnf
       rw [e2]
       refine hT _ _ ?_
       refine aops_step fun T S hT hS=>?_
       conv=>whnf
       rw [dec_idx (n:=64) h2]
       conv=>whnf
       refine hT _ _ ?_
       refine aops_step fun T S hT hS=>?_
       conv=>whnf
       conv in (takeAt _ _ _)=>change takeAt (wrow (pcL P j) t) (0+(t-2)*1) 1; rw [wrow_take (pcL P j) l2 ht64]
       conv=>whnf
       refine hT _ _ ?_
       refine aops_step fun T S hT hS=>?_
       conv=>whnf
       refine ⟨_,rrot17_fn,rfl,?_⟩
       refine hT _ _ ?_
       refine aops_step fun T S hT hS=>?_
       conv=>whnf
       refine hT _ _ ?_
       refine aops_step fun T S hT hS=>?_
       conv=>whnf
       rw [e2]
       refine hT _ _ ?_
       refine aops_step fun T S hT hS=>?_
       conv=>whnf
       rw [dec_idx (n:=64) h2]
       conv=>whnf
       refine hT _ _ ?_
       refine aops_step fun T S hT hS=>?_
       conv=>whnf
       conv in (takeAt _ _ _)=>change takeAt (wrow (pcL P j) t) (0+(t-2)*1) 1; rw [wrow_take (pcL P j) l2 ht64]
       conv=>whnf
       refine hT _ _ ?_
       refine aops_step fun T S hT hS=>?_
       conv=>whnf
       refine ⟨_,rrot19_fn,rfl,?_⟩
       refine hT _ _ ?_
       iterate 2 (refine aops_step fun T S hT hS=>?_; (conv=>whnf); refine hT _ _ ?_)
       refine aops_step fun T S hT hS=>?_
       conv=>whnf
       rw [e2]
       refine hT _ _ ?_
       refine aops_step fun T S hT hS=>?_
       conv=>whnf
       rw [dec_idx (n:=64) h2]
       conv=>whnf
       refine hT _ _ ?_
       refine aops_step fun T S hT hS=>?_
       conv=>whnf
       conv in (takeAt _ _ _)=>change takeAt (wrow (pcL P j) t) (0+(t-2)*1) 1; rw [wrow_take (pcL P j) l2 ht64]
       conv=>whnf
       refine hT _ _ ?_
       iterate 3 (refine aops_step fun T S hT hS=>?_; (conv=>whnf); refine hT _ _ ?_)
       refine aops_end ?_
       refine hK3 _ _ ?_
       clear hK3 hR3
       iterate 2 (refine aops_step fun T S hT hS=>?_; (conv=>whnf); refine hT _ _ ?_)
       refine aops_step fun T S hT hS=>?_
       conv=>whnf
       rw [e16]
       refine hT _ _ ?_
       refine aops_step fun T S hT hS=>?_
       conv=>whnf
       rw [dec_idx (n:=64) h16]
       conv=>whnf
       refine hT _ _ ?_
       refine aops_step fun T S hT hS=>?_
       conv=>whnf
       conv in (takeAt _ _ _)=>change takeAt (wrow (pcL P j) t) (0+(t-16)*1) 1; rw [wrow_take (pcL P j) l16 ht64]
       conv=>whnf
       refine hT _ _ ?_
       iterate 3 (refine aops_step fun T S hT hS=>?_; (conv=>whnf); refine hT _ _ ?_)
       refine aops_step fun T S hT hS=>?_
       conv=>whnf
       rw [e7]
       refine hT _ _ ?_
       refine aops_step fun T S hT hS=>?_
       conv=>whnf
       rw [dec_idx (n:=64) h7]
       conv=>whnf
       refine hT _ _ ?_
       refine aops_step fun T S hT hS=>?_
       conv=>whnf
       conv in (takeAt _ _ _)=>change takeAt (wrow (pcL P j) t) (0+(t-7)*1) 1; rw [wrow_take (pcL P j) l7 ht64]
       conv=>whnf
       refine hT _ _ ?_
       iterate 3 (refine aops_step fun T S hT hS=>?_; (conv=>whnf); refine hT _ _ ?_)
       refine aops_step fun T S hT hS=>?_
       conv=>whnf
       rw [dec_idx (n:=64) ht]
       conv=>whnf
       refine hT _ _ ?_
       refine aops_step fun T S hT hS=>?_
       conv=>whnf
       conv in (putAt _ _ _)=>change putAt (wrow (pcL P j) t) (0+t*1) [w32 (wadd (wadd (wadd (Wd (pcL P j) (t-16)) (sg0 (Wd (pcL P j) (t-15)))) (Wd (pcL P j) (t-7))) (sg1 (Wd (pcL P j) (t-2))))]; rw [← Wd_hi (pcL P j) hge,wrow_put (pcL P j) ht]
       conv=>whnf
       refine hT _ _ ?_
       refine aops_end ?_
       refine hK4 _ _ ?_
       clear hK4 hR4
       conv=>whnf
       refine ⟨64-(t+1),F0,by omega,fun c N1 _ _=>⟨_,_,wk_of (by (repeat' apply And.intro)<;>first | trivial | exact ⟨_,rfl,tv_inc (n:=64) ht (by omega),rfl⟩ | exact ⟨_,rfl,rfl,rfl⟩) (by (repeat' apply And.intro)<;>first | trivial | rfl | exact ⟨_,rfl,wrow_blk (pcL P j) (t+1) _ _ _,wrow_cl (pcL P j) (t+1) _⟩ | exact ⟨_,rfl,u8_blk _ _ _ _ _ _,ints_cl _ _ _⟩ | exact ⟨_,rfl,rfl,rfl⟩) (by exact Nat.le_of_ble_eq_true rfl) (by exact Nat.le_of_ble_eq_true rfl),⟨t+1,t0,t2,t3,g,cap,N1,by omega,ht,rfl,rfl,rfl⟩⟩⟩
      | false=>
       obtain rfl:t=64:=by have:=of_decide_eq_false hlt; omega
       conv=>whnf
       refine hK7 _ _ ?_
       clear hK7 hR7
       refine swp_cut fun K hK hR _=>?_
       conv=>whnf
       refine hK _ _ ?_
       clear hK hR
       refine swp_cut fun K7 hK7 hR7 _=>?_
       refine swp_cut fun K2 hK2 hR2 _=>?_
       conv=>whnf
       refine hK2 _ _ ?_
       clear hK2 hR2
       conv=>whnf
       refine .inr (loop_invC (gH A _) (OfI3 P s j) ?_ ?_)
       ·intro k' e' m' hI
        obtain ⟨t,t0,t2,t3,t4,g,cap,N,ht64,rfl,rfl,rfl⟩:=hI
        conv=>whnf
        cases hlt:decide ((t:Int)<64) with
        | true=>
         have ht:t<64:=by have:=of_decide_eq_true hlt; omega
         have hstep:rounds (pcL P j) s (t+1)=step (tabK.getD t 0) (Wd (pcL P j) t) (rounds (pcL P j) s t):=rfl
         generalize hr:rounds (pcL P j) s t=r at *
         have hblk:∀ F c,(⟨(rounds (pcL P j) s (t+1)).cells,t4,0,false⟩:Blk)=⟨fzL F c (step (tabK.getD t 0) (Wd (pcL P j) t) r).cells,t4,0,false⟩:=fun F c=>by rw [hstep]; rfl
         show swpC _ (Code.seq _ _) _ _ _
         refine swp_cut fun K4 hK4 hR4 _=>?_
         refine swp_block ?_
         refine swp_cut fun K3 hK3 hR3 _=>?_
         iterate 3 (refine aops_step fun T S hT hS=>?_; (conv=>whnf); refine hT _ _ ?_)
         refine aops_end ?_
         refine hK3 _ _ ?_
         clear hK3 hR3
         refine swp_cut fun K3 hK3 hR3 _=>?_
         iterate 3 (refine aops_step fun T S hT hS=>?_; (conv=>whnf); refine hT _ _ ?_)
         refine aops_step fun T S hT hS=>?_
         conv=>whnf
         refine ⟨_,rrot6_fn,rfl,?_⟩
         refine hT _ _ ?_
         refine aops_step fun T S hT hS=>?_
         conv=>whnf
         refine hT _ _ ?_
         refine aops_step fun T S hT hS=>?_
         conv=>whnf
         refine ⟨_,rrot11_fn,rfl,?_⟩
         refine hT _ _ ?_
         iterate 2 (refine aops_step fun T S hT hS=>?_; (conv=>whnf); refine hT _ _ ?_)
         refine aops_step fun T S hT hS=>?_
         conv=>whnf
         refine ⟨_,rrot25_fn,rfl,?_⟩
         refine hT _ _ ?_
         iterate 7 (refine aops_step fun T S hT hS=>?_; (conv=>whnf); refine hT _ _ ?_)
         refine aops_step fun T S hT hS=>?_
         conv=>whnf
         show T (.one (.int .u32 (bxor r.e 4294967295))) _
         rw [bxor_comm r.e 4294967295]
         refine hT _ _ ?_
         iterate 6 (refine aops_step fun T S hT hS=>?_; (conv=>whnf); refine hT _ _ ?_)
         refine aops_step fun T S hT hS=>?_
         conv=>whnf
         rw [dec_idx (n:=64) ht]
         conv=>whnf
         refine hT _ _ ?_
         refine aops_step fun T S hT hS=>?_
         conv=>whnf
         refine ⟨_,ERead_l (tab_one hTb ht),?_⟩
         refine hT _ _ ?_
         iterate 2 (refine aops_step fun T S hT hS=>?_; (conv=>whnf); refine hT _ _ ?_)
         refine aops_step fun T S hT hS=>?_
         conv=>whnf
         rw [dec_idx (n:=64) ht]
         conv=>whnf
         refine hT _ _ ?_
         refine aops_step fun T S hT hS=>?_
         conv=>whnf
         conv in (takeAt _ _ _)=>change takeAt (wrow (pcL P j) 64) (0+t*1) 1; rw [wrow_take (pcL P j) ht (Nat.le_refl _)]
         conv=>whnf
         refine hT _ _ ?_
         iterate 2 (refine aops_step fun T S hT hS=>?_; (conv=>whnf); refine hT _ _ ?_)
         refine aops_end ?_
         refine hK3 _ _ ?_
         clear hK3 hR3
         refine swp_cut fun K3 hK3 hR3 _=>?_
         iterate 2 (refine aops_step fun T S hT hS=>?_; (conv=>whnf); refine hT _ _ ?_)
         refine aops_step fun T S hT hS=>?_
         conv=>whnf
         refine ⟨_,rrot2_fn,rfl,?_⟩
         refine hT _ _ ?_
         iterate 2 (refine aops_step fun T S hT hS=>?_; (conv=>whnf); refine hT _ _ ?_)
         refine aops_step fun T S hT hS=>?_
         conv=>whnf
         refine ⟨_,rrot13_fn,rfl,?_⟩
         refine hT _ _ ?_
         iterate 3 (refine aops_step fun T S hT hS=>?_; (conv=>whnf); refine hT _ _ ?_)
         refine aops_step fun T S hT hS=>?_
         conv=>whnf
         refine ⟨_,rrot22_fn,rfl,?_⟩
         refine hT _ _ ?_
         iterate 20 (refine aops_step fun T S hT hS=>?_; (conv=>whnf); refine hT _ _ ?_)
         refine aops_end ?_
         refine hK3 _ _ ?_
         clear hK3 hR3
         refine swp_cut fun K3 hK3 hR3 _=>?_
         iterate 4 (refine aops_step fun T S hT hS=>?_; (conv=>whnf); refine hT _ _ ?_)
         refine aops_end ?_
         refine hK3 _ _ ?_
         clear hK3 hR3
         refine swp_cut fun K3 hK3 hR3 _=>?_
         iterate 4 (refine aops_step fun T S hT hS=>?_; (conv=>whnf); refine hT _ _ ?_)
         refine aops_end ?_
         refine hK3 _ _ ?_
         clear hK3 hR3
         refine swp_cut fun K3 hK3 hR3 _=>?_
         iterate 3 (refine aops_step fun T S hT hS=>?_; (conv=>whnf); refine hT _ _ ?_)
         refine aops_end ?_
         refine hK3 _ _ ?_
         clear hK3 hR3
         refine swp_cut fun K3 hK3 hR3 _=>?_
         iterate 6 (refine aops_step fun T S hT hS=>?_; (conv=>whnf); refine hT _ _ ?_)
         refine aops_end ?_
         refine hK3 _ _ ?_
         clear hK3 hR3
         refine swp_cut fun K3 hK3 hR3 _=>?_
         iterate 4 (refine aops_step fun T S hT hS=>?_; (conv=>whnf); refine hT _ _ ?_)
         refine aops_end ?_
         refine hK3 _ _ ?_
         clear hK3 hR3
         refine swp_cut fun K3 hK3 hR3 _=>?_
         iterate 4 (refine aops_step fun T S hT hS=>?_; (conv=>whnf); refine hT _ _ ?_)
         refine aops_end ?_
         refine hK3 _ _ ?_
         clear hK3 hR3
         refine swp_cut fun K3 hK3 hR3 _=>?_
         iterate 4 (refine aops_step fun T S hT hS=>?_; (conv=>whnf); refine hT _ _ ?_)
         refine aops_end ?_
         refine hK3 _ _ ?_
         clear hK3 hR3
         iterate 5 (refine aops_step fun T S hT hS=>?_; (conv=>whnf); refine hT _ _ ?_)
         refine aops_end ?_
         refine hK4 _ _ ?_
         clear hK4 hR4
         conv=>whnf
         refine ⟨64-(t+1),F0,by omega,fun c N1 _ _=>⟨_,_,wk_of (by (repeat' apply And.intro)<;>first | trivial | exact ⟨_,rfl,tv_inc (n:=64) ht (by omega),rfl⟩ | exact ⟨_,rfl,rfl,rfl⟩) (by (repeat' apply And.intro)<;>first | trivial | rfl | exact ⟨_,rfl,hblk _ _,rfl⟩ | exact ⟨_,rfl,wrow_blk (pcL P j) 64 _ _ _,wrow_cl (pcL P j) 64 _⟩ | exact ⟨_,rfl,u8_blk _ _ _ _ _ _,ints_cl _ _ _⟩ | exact ⟨_,rfl,rfl,rfl⟩) (by exact Nat.le_of_ble_eq_true rfl) (by exact Nat.le_of_ble_eq_true rfl),⟨t+1,t0,t2,t3,t4,g,cap,N1,ht,rfl,rfl,rfl⟩⟩⟩
        | false=>
         obtain rfl:t=64:=by have:=of_decide_eq_false hlt; omega
         conv=>whnf
         refine hK7 _ _ ?_
         clear hK7 hR7
         have hm:mix (pcL P j) s=add8 s (rounds (pcL P j) s 64):=rfl
         rw [hm] at hmix
         generalize rounds (pcL P j) s 64=r at *
         have hblk:∀ F c,(⟨(runP P begun8 (j+1)).cells,t2,0,false⟩:Blk)=⟨fzL F c (add8 s r).cells,t2,0,false⟩:=fun F c=>by rw [hmix]; rfl
         have e64:wr .i64 (((64*j:Nat):Int)+64)=.int .i64 ((64*(j+1):Nat):Int):=by
          simp only [wr]
          rw [wrapN (n:=64*(j+1)) (by omega) (by omega)]
         refine swp_cut fun K2 hK2 hR2 _=>?_
         conv=>whnf
         refine hK2 _ _ ?_
         clear hK2 hR2
         conv=>whnf
         refine .inl ⟨9,?_⟩
         conv=>whnf
         refine hK6 _ _ ?_
         clear hK6 hR6
         refine aops_step fun T S hT hS=>?_
         conv=>whnf
         refine hT _ _ ?_
         refine aops_step fun T S hT hS=>?_
         conv=>whnf
         rw [e64]
         refine hT _ _ ?_
         refine aops_step fun T S hT hS=>?_
         conv=>whnf
         refine hT _ _ ?_
         refine aops_end ?_
         conv=>whnf
         refine ⟨P.length-64*(j+1),F0,by omega,fun c N1 _ _=>⟨_,_,wk_of (by (repeat' apply And.intro)<;>first | trivial | exact ⟨_,rfl,rfl,rfl⟩) (by (repeat' apply And.intro)<;>first | trivial | rfl | exact ⟨_,rfl,hblk _ _,rfl⟩ | exact ⟨_,rfl,u8_blk _ _ _ _ _ _,ints_cl _ _ _⟩ | exact ⟨_,rfl,rfl,rfl⟩) (by exact Nat.le_of_ble_eq_true rfl) (by exact Nat.le_of_ble_eq_true rfl),⟨j+1,t0,t2,g,cap,N1,hjl,rfl,rfl,rfl⟩⟩⟩
       ·refine ⟨64,F0,fun c N1 _ _=>⟨_,_,wk_of (by (repeat' apply And.intro)<;>first | trivial | exact ⟨_,rfl,rfl,rfl⟩) (by (repeat' apply And.intro)<;>first | trivial | rfl | exact ⟨_,rfl,wrow_blk (pcL P j) 64 _ _ _,wrow_cl (pcL P j) 64 _⟩ | exact ⟨_,rfl,u8_blk _ _ _ _ _ _,ints_cl _ _ _⟩ | exact ⟨_,rfl,rfl,rfl⟩) (by exact Nat.le_of_ble_eq_true rfl) (by exact Nat.le_of_ble_eq_true rfl),⟨0,t0,t2,t3,_,g,cap,N1,by omega,rfl,rfl,rfl⟩⟩⟩
     ·refine ⟨48,F0,fun c N1 _ _=>⟨_,_,wk_of (by (repeat' apply And.intro)<;>first | trivial | exact ⟨_,rfl,rfl,rfl⟩) (by (repeat' apply And.intro)<;>first | trivial | rfl | exact ⟨_,rfl,wrow_blk (pcL P j) 16 _ _ _,wrow_cl (pcL P j) 16 _⟩ | exact ⟨_,rfl,u8_blk _ _ _ _ _ _,ints_cl _ _ _⟩ | exact ⟨_,rfl,rfl,rfl⟩) (by exact Nat.le_of_ble_eq_true rfl) (by exact Nat.le_of_ble_eq_true rfl),⟨16,t0,t2,t3,g,cap,N1,by omega,by omega,rfl,rfl,rfl⟩⟩⟩
   ·refine ⟨16,F0,fun c N1 _ _=>⟨_,_,wk_of (by (repeat' apply And.intro)<;>first | trivial | exact ⟨_,rfl,rfl,rfl⟩) (by (repeat' apply And.intro)<;>first | trivial | rfl | exact ⟨_,rfl,wrow_blk0 (pcL P j) _ _ _,wrow_cl (pcL P j) 0 _⟩ | exact ⟨_,rfl,u8_blk _ _ _ _ _ _,ints_cl _ _ _⟩ | exact ⟨_,rfl,rfl,rfl⟩) (by exact Nat.le_of_ble_eq_true rfl) (by exact Nat.le_of_ble_eq_true rfl),⟨0,t0,t2,_,g,cap,N1,by omega,rfl,rfl,rfl⟩⟩⟩
  | false=>
   have hjq:j=P.length/64:=by have:=of_decide_eq_false hlt; omega
   conv=>whnf
   refine hK _ _ ?_
   clear hK hR
   rw [hjq]
   generalize runP P begun8 (P.length/64)=sf at *
   refine swp_cut fun K hK hR _=>?_
   conv=>whnf
   refine hK _ _ ?_
   clear hK hR
   refine swp_cut fun K hK hR _=>?_
   refine swp_cut fun K2 hK2 hR2 _=>?_
   conv=>whnf
   refine hK2 _ _ ?_
   clear hK2 hR2
   conv=>whnf
   refine .inr (loop_invC (gH A _) (OfI5 sf) ?_ ?_)
   ·intro k' e' m' hI
    obtain ⟨i,t0,t2,t3,N,hi32,rfl,rfl,rfl⟩:=hI
    conv=>whnf
    cases hlt:decide ((i:Int)<32) with
    | true=>
     have hi:i<32:=by have:=of_decide_eq_true hlt; omega
     have h8:i/4<8:=by omega
     have eq4:IntKind.wrap .i64 ((i:Int).tdiv 4)=((i/4:Nat):Int):=wrapN (n:=i/4) rfl (by omega)
     have er4:(i:Int).tmod 4=((i%4:Nat):Int):=rfl
     have e8:wr .i64 (8*((i%4:Nat):Int))=.int .i64 ((8*(i%4):Nat):Int):=by
      simp only [wr]
      rw [wrapN (n:=8*(i%4)) (by omega) (by omega)]
     have e24:wr .i64 (24-((8*(i%4):Nat):Int))=.int .i64 ((24-8*(i%4):Nat):Int):=by
      simp only [wr]
      rw [wrapN (n:=24-8*(i%4)) (by omega) (by omega)]
     show swpC _ (Code.seq _ _) _ _ _
     refine swp_cut fun K4 hK4 hR4 _=>?_
     refine swp_block ?_
     iterate 2 (refine aops_step fun T S hT hS=>?_; (conv=>whnf); refine hT _ _ ?_)
     refine aops_step fun T S hT hS=>?_
     conv=>whnf
     rw [eq4]
     refine hT _ _ ?_
     refine aops_step fun T S hT hS=>?_
     conv=>whnf
     rw [dec_idx (n:=8) h8]
     conv=>whnf
     refine hT _ _ ?_
     refine aops_step fun T S hT hS=>?_
     conv=>whnf
     conv in (takeAt _ _ _)=>change takeAt sf.cells (0+(i/4)*1) 1; rw [get_take0 sf h8]
     conv=>whnf
     refine hT _ _ ?_
     refine aops_step fun T S hT hS=>?_
     conv=>whnf
     refine hT _ _ ?_
     refine aops_step fun T S hT hS=>?_
     conv=>whnf
     rw [er4]
     refine hT _ _ ?_
     refine aops_step fun T S hT hS=>?_
     conv=>whnf
     rw [e8]
     refine hT _ _ ?_
     refine aops_step fun T S hT hS=>?_
     conv=>whnf
     rw [e24]
     refine hT _ _ ?_
     iterate 2 (refine aops_step fun T S hT hS=>?_; (conv=>whnf); refine hT _ _ ?_)
     refine aops_step fun T S hT hS=>?_
     conv=>whnf
     rw [dec_idx (n:=32) hi]
     conv=>whnf
     refine hT _ _ ?_
     refine aops_step fun T S hT hS=>?_
     conv=>whnf
     conv in (putAt _ _ _)=>change putAt (drow sf i) (0+i*1) [(.int .u8 ((sf.get (i/4)).fdiv (2^(min (24-8*(i%4)) 32))%256))]; rw [drow_put1 sf hi]
     conv=>whnf
     refine hT _ _ ?_
     refine aops_end ?_
     refine hK4 _ _ ?_
     clear hK4 hR4
     conv=>whnf
     refine ⟨32-(i+1),F0,by omega,fun c N1 _ _=>⟨_,_,wk_of (by (repeat' apply And.intro)<;>first | trivial | exact ⟨_,rfl,tv_inc (n:=32) hi (by omega),rfl⟩ | exact ⟨_,rfl,rfl,rfl⟩) (by (repeat' apply And.intro)<;>first | trivial | rfl | exact ⟨_,rfl,drow_blk sf (i+1) _ _ _,drow_cl sf (i+1) _⟩ | exact ⟨_,rfl,u8_blk _ _ _ _ _ _,ints_cl _ _ _⟩ | exact ⟨_,rfl,rfl,rfl⟩) (by exact Nat.le_of_ble_eq_true rfl) (by exact Nat.le_of_ble_eq_true rfl),⟨i+1,t0,t2,t3,N1,hi,rfl,rfl,rfl⟩⟩⟩
    | false=>
     obtain rfl:i=32:=by have:=of_decide_eq_false hlt; omega
     conv=>whnf
     refine hK _ _ ?_
     clear hK hR
     rw [drow_32]
     conv=>whnf
     intro c N2 _ _
     rfl
   ·refine ⟨32,F0,fun c N1 _ _=>⟨_,_,wk_of (by (repeat' apply And.intro)<;>first | trivial | exact ⟨_,rfl,rfl,rfl⟩) (by (repeat' apply And.intro)<;>first | trivial | rfl | exact ⟨_,rfl,drow_blk0 sf _ _ _,drow_cl sf 0 _⟩ | exact ⟨_,rfl,u8_blk _ _ _ _ _ _,ints_cl _ _ _⟩ | exact ⟨_,rfl,rfl,rfl⟩) (by exact Nat.le_of_ble_eq_true rfl) (by exact Nat.le_of_ble_eq_true rfl),⟨0,t0,t2,_,N1,by omega,rfl,rfl,rfl⟩⟩⟩
 ·refine ⟨P.length,F0,fun c N1 _ _=>⟨_,_,wk_of (by (repeat' apply And.intro)<;>first | trivial | exact ⟨_,rfl,rfl,rfl⟩) (by (repeat' apply And.intro)<;>first | trivial | rfl | exact ⟨_,rfl,u8_blk _ _ _ _ _ _,ints_cl _ _ _⟩ | exact ⟨_,rfl,rfl,rfl⟩) (by exact Nat.le_of_ble_eq_true rfl) (by exact Nat.le_of_ble_eq_true rfl),⟨0,_,_,_,cap,N1,by omega,rfl,rfl,rfl⟩⟩⟩

end Go.Hv

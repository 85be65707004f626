import Derived.Test.YthmdbgdagnhheaaGreatDoorSh3
namespace Go.Hv
open Go.Ev

def zc (r:Nat):Nat:=(119-r)%64
def C1 (R:List Int) (z:Nat):List Int:=R++[128]++List.replicate z 0
def bt (n:Nat) (i:Nat):Int:=(8*((n:Int)%18446744073709551616)%18446744073709551616).fdiv (2^(min (56-8*i) 64))%256
def tl8 (n:Nat):List Int:=(List.range 8).map (bt n)
def C2 (R:List Int) (n i:Nat):List Int:=C1 R (zc R.length)++(tl8 n).take i
def last (R:List Int) (n:Nat):List Int:=C1 R (zc R.length)++tl8 n
def S8.get (s:S8) (i:Nat):Int:=[s.a,s.b,s.c,s.d,s.e,s.f,s.g,s.h].getD i 0
def dgl (s:S8):List Int:=(List.range 32).map fun m=>(s.get (m/4)).fdiv (2^(min (24-8*(m%4)) 32))%256
def finS (s:S8) (R:List Int) (n:Nat):S8:=runP (last R n) s ((last R n).length/64)

theorem C1_len (R:List Int) (z:Nat):(C1 R z).length=R.length+1+z:=by
 simp [C1]
 omega
theorem zc_lt {r z:Nat} (hr:r<64) (hz:z≤zc r) (h:(((r+1+z:Nat):Int).tmod 64 != 56)=true):z<zc r:=by
 have etm:((r+1+z:Nat):Int).tmod 64=(((r+1+z)%64:Nat):Int):=rfl
 rw [etm] at h
 have h1:(r+1+z)%64≠56:=fun h'=>by rw [h'] at h; cases h
 rcases Nat.lt_or_eq_of_le hz with h2 | h2
 ·exact h2
 ·exfalso
  unfold zc at h2
  omega
theorem zc_eq {r z:Nat} (hr:r<64) (hz:z≤zc r) (h:(((r+1+z:Nat):Int).tmod 64 != 56)=false):z=zc r:=by
 have etm:((r+1+z:Nat):Int).tmod 64=(((r+1+z)%64:Nat):Int):=rfl
 rw [etm] at h
 have h1:(r+1+z)%64=56:=by
  rcases Decidable.em ((r+1+z)%64=56) with h2 | h2
  ·exact h2
  ·have:((((r+1+z)%64:Nat):Int) != 56)=true:=by
    rw [bne_iff_ne]
    omega
   rw [this] at h
   cases h
 unfold zc at hz ⊢
 omega
theorem C1_succ (R:List Int) (z:Nat):C1 R z++[0]=C1 R (z+1):=by
 unfold C1
 rw [List.append_assoc,List.replicate_succ']
theorem tl8_len (n:Nat):(tl8 n).length=8:=by simp [tl8]
theorem C2_len (R:List Int) (n:Nat) {i:Nat} (h:i≤8):(C2 R n i).length=R.length+1+zc R.length+i:=by
 unfold C2
 rw [List.length_append,C1_len,List.length_take,tl8_len]
 omega
theorem C2_succ (R:List Int) (n:Nat) {i:Nat} (h:i<8):C2 R n i++[bt n i]=C2 R n (i+1):=by
 unfold C2
 have hl:i<(tl8 n).length:=by rw [tl8_len]; exact h
 rw [List.append_assoc,List.take_succ_eq_append_getElem hl]
 congr 2
 simp [tl8]
theorem C2_8 (R:List Int) (n:Nat):C2 R n 8=last R n:=by
 unfold C2 last
 rw [List.take_of_length_le (by rw [tl8_len]; exact Nat.le_refl _)]
theorem last_len (R:List Int) (n:Nat):(last R n).length=R.length+1+zc R.length+8:=by
 rw [← C2_8,C2_len R n (Nat.le_refl _)]
theorem u8s_app (X Y:List Int):u8s X++u8s Y=u8s (X++Y):=(List.map_append).symm

theorem dgl_len (s:S8):(dgl s).length=32:=by simp [dgl]
theorem dgl_get (s:S8) {i k:Nat} (hi:i<8) (hk:k<4):(u8s (dgl s))[4*i+k]?=some (.int .u8 ((s.get i).fdiv (2^(min (24-8*k) 32))%256)):=by
 have h1:(4*i+k)/4=i:=by omega
 have h2:(4*i+k)%4=k:=by omega
 simp only [u8s,dgl,List.getElem?_map,List.getElem?_range (show 4*i+k<32 by omega),Option.map_some,h1,h2]
theorem get_take (s:S8) {i:Nat} (hi:i<8):takeAt s.cells (i*1) 1=some [w32 (s.get i)]:=by
 have:∀ i,i<8→i=0∨i=1∨i=2∨i=3∨i=4∨i=5∨i=6∨i=7:=by omega
 rcases this i hi with rfl | rfl | rfl | rfl | rfl | rfl | rfl | rfl<;>rfl

def drow (s:S8) (m:Nat):List Sc:=(u8s (dgl s)).take m++List.replicate (32-m) (.int .u8 0)
theorem drow_cl (s:S8) (m n:Nat):closedL n (drow s m)=true:=closedL_iff.2 fun x hx=>by
 rcases List.mem_append.1 hx with h | h
 ·exact closedL_iff.1 (ints_cl .u8 (dgl s) n) x (List.mem_of_mem_take h)
 ·rw [(List.mem_replicate.1 h).2]
  rfl
theorem drow_put (s:S8) {i k:Nat} (hi:i<8) (hk:k<4):putAt (drow s (4*i+k)) (0+(4*i+k)*1) [.int .u8 ((s.get i).fdiv (2^(min (24-8*k) 32))%256)]=some (drow s (4*i+k+1)):=
 rowPut (by rw [List.length_map,dgl_len]) (by omega) (dgl_get s hi hk)
theorem drow_0 (s:S8):drow s 0=List.replicate 32 (.int .u8 0):=by
 unfold drow
 rw [List.take_zero]
 rfl
theorem drow_32 (s:S8):drow s 32=u8s (dgl s):=by
 unfold drow
 rw [List.take_of_length_le (by rw [List.length_map,dgl_len]; exact Nat.le_refl _)]
 simp
theorem drow_blk (s:S8) (m k:Nat) (F:Nat→Bool) (c:Con):(⟨drow s m,k,0,false⟩:Blk)=⟨fzL F c (drow s m),k,0,false⟩:=by rw [fzL_cl (drow_cl s m 0)]
theorem drow_blk0 (s:S8) (k:Nat) (F:Nat→Bool) (c:Con):(⟨drow s 0,k,0,false⟩:Blk)=⟨fzL F c (List.replicate 32 (.int .u8 0)),k,0,false⟩:=by rw [← drow_0 s,fzL_cl (drow_cl s 0 0)]

theorem u8_blk (X:List Int) (t g:Nat) (gr:Bool) (F:Nat→Bool) (c:Con):(⟨u8s X,t,g,gr⟩:Blk)=⟨fzL F c (u8s X),t,g,gr⟩:=by rw [fzL_cl (ints_cl _ _ 0)]

theorem sum_ok:∀ A,okCode (HHo A fun _=>none) F_sha_Hash_Sum.ntmps (bodyOf F_sha_Hash_Sum)=true:=fun _=>by kernel_rfl

def d0 (t0:Nat):Option Blk:=some ⟨List.replicate 32 (.int .u8 0),t0,0,false⟩

def SmI1_2 (a:Addr) (R:List Int) (k:Nat) (e:Env) (m:HM):Prop:=
 ∃ (z t0 cap:Nat) (N:Base),z≤zc R.length∧k=zc R.length-z∧R.length+1+z≤cap ∧
  ((z=0∧e=[(3,.one (.slice (some (.loc 2 0)) (R.length+1+z) cap)),(2,.one (.ptr (some (.loc 0 0)))),(0,.one (.ptr (some (.ext a))))]∧m=⟨[d0 t0,none,some ⟨u8s (C1 R z),t_uint8,cap*1,true⟩],N⟩)∨(0<z∧e=[(3,.one (.slice (some (.loc 3 0)) (R.length+1+z) cap)),(2,.one (.ptr (some (.loc 0 0)))),(0,.one (.ptr (some (.ext a))))]∧m=⟨[d0 t0,none,none,some ⟨u8s (C1 R z),t_uint8,cap*1,true⟩],N⟩))

def SmI1_3 (a:Addr) (R:List Int) (k:Nat) (e:Env) (m:HM):Prop:=
 ∃ (z t0 cap:Nat) (N:Base),z≤zc R.length∧k=zc R.length-z∧R.length+1+z≤cap ∧
  ((z=0∧e=[(3,.one (.slice (some (.loc 3 0)) (R.length+1+z) cap)),(2,.one (.ptr (some (.loc 0 0)))),(0,.one (.ptr (some (.ext a))))]∧m=⟨[d0 t0,none,none,some ⟨u8s (C1 R z),t_uint8,cap*1,true⟩],N⟩)∨(0<z∧e=[(3,.one (.slice (some (.loc 4 0)) (R.length+1+z) cap)),(2,.one (.ptr (some (.loc 0 0)))),(0,.one (.ptr (some (.ext a))))]∧m=⟨[d0 t0,none,none,none,some ⟨u8s (C1 R z),t_uint8,cap*1,true⟩],N⟩))

def SmI2_3 (a:Addr) (R:List Int) (n:Nat) (k:Nat) (e:Env) (m:HM):Prop:=
 ∃ (i t0 cap:Nat) (N:Base),i≤8∧k=8-i∧R.length+1+zc R.length+i≤cap ∧
  ((i=0∧e=[(25,.one (.int .i64 (i:Int))),(3,.one (.slice (some (.loc 3 0)) (R.length+1+zc R.length+i) cap)),(2,.one (.ptr (some (.loc 0 0)))),(0,.one (.ptr (some (.ext a))))]∧m=⟨[d0 t0,none,none,some ⟨u8s (C2 R n i),t_uint8,cap*1,true⟩],N⟩)∨(0<i∧e=[(25,.one (.int .i64 (i:Int))),(3,.one (.slice (some (.loc 4 0)) (R.length+1+zc R.length+i) cap)),(2,.one (.ptr (some (.loc 0 0)))),(0,.one (.ptr (some (.ext a))))]∧m=⟨[d0 t0,none,none,none,some ⟨u8s (C2 R n i),t_uint8,cap*1,true⟩],N⟩))

def SmI2_4 (a:Addr) (R:List Int) (n:Nat) (k:Nat) (e:Env) (m:HM):Prop:=
 ∃ (i t0 cap:Nat) (N:Base),i≤8∧k=8-i∧R.length+1+zc R.length+i≤cap ∧
  ((i=0∧e=[(25,.one (.int .i64 (i:Int))),(3,.one (.slice (some (.loc 4 0)) (R.length+1+zc R.length+i) cap)),(2,.one (.ptr (some (.loc 0 0)))),(0,.one (.ptr (some (.ext a))))]∧m=⟨[d0 t0,none,none,none,some ⟨u8s (C2 R n i),t_uint8,cap*1,true⟩],N⟩)∨(0<i∧e=[(25,.one (.int .i64 (i:Int))),(3,.one (.slice (some (.loc 5 0)) (R.length+1+zc R.length+i) cap)),(2,.one (.ptr (some (.loc 0 0)))),(0,.one (.ptr (some (.ext a))))]∧m=⟨[d0 t0,none,none,none,none,some ⟨u8s (C2 R n i),t_uint8,cap*1,true⟩],N⟩))

def SmI3_4 (s:S8) (B:List Int) (k:Nat) (e:Env) (m:HM):Prop:=
 ∃ (j t0 t1 g off cap:Nat) (N:Base),64*j≤B.length∧k=B.length-64*j∧B.length-64*j≤cap∧(64*j<B.length→off=64*j) ∧
  e=[(5,.one (.ptr (some (.loc 5 0)))),(3,.one (.slice (some (.loc 4 off)) (B.length-64*j) cap)),(2,.one (.ptr (some (.loc 0 0))))] ∧
  m=⟨[d0 t0,none,none,none,some ⟨u8s B,t_uint8,g,true⟩,some ⟨(runP B s j).cells,t1,0,false⟩],N⟩

def SmI4_4 (s:S8) (k:Nat) (e:Env) (m:HM):Prop:=
 ∃ (i t0 t2:Nat) (N:Base),i≤8∧k=8-i ∧
  e=[(57,.one (.int .i64 (i:Int))),(56,.agg s.cells),(6,.one (.ptr (some (.loc 6 0)))),(2,.one (.ptr (some (.loc 0 0))))] ∧
  m=⟨[d0 t0,none,none,none,none,none,some ⟨drow s (4*i),t2,0,false⟩],N⟩

def SmI5_4 (s:S8) (i:Nat) (k:Nat) (e:Env) (m:HM):Prop:=
 ∃ (j t0 t2:Nat) (N:Base),j≤4∧k=4-j ∧
  e=[(61,.one (.int .i64 (j:Int))),(57,.one (.int .i64 (i:Int))),(56,.agg s.cells),(8,.one (w32 (s.get i))),(7,.one (.int .i64 (i:Int))),(6,.one (.ptr (some (.loc 6 0)))),(2,.one (.ptr (some (.loc 0 0))))] ∧
  m=⟨[d0 t0,none,none,none,none,none,some ⟨drow s (4*i+j),t2,0,false⟩],N⟩

def SmI3_5 (s:S8) (B:List Int) (k:Nat) (e:Env) (m:HM):Prop:=
 ∃ (j t0 t1 g off cap:Nat) (N:Base),64*j≤B.length∧k=B.length-64*j∧B.length-64*j≤cap∧(64*j<B.length→off=64*j) ∧
  e=[(5,.one (.ptr (some (.loc 6 0)))),(3,.one (.slice (some (.loc 5 off)) (B.length-64*j) cap)),(2,.one (.ptr (some (.loc 0 0))))] ∧
  m=⟨[d0 t0,none,none,none,none,some ⟨u8s B,t_uint8,g,true⟩,some ⟨(runP B s j).cells,t1,0,false⟩],N⟩

def SmI4_5 (s:S8) (k:Nat) (e:Env) (m:HM):Prop:=
 ∃ (i t0 t2:Nat) (N:Base),i≤8∧k=8-i ∧
  e=[(57,.one (.int .i64 (i:Int))),(56,.agg s.cells),(6,.one (.ptr (some (.loc 7 0)))),(2,.one (.ptr (some (.loc 0 0))))] ∧
  m=⟨[d0 t0,none,none,none,none,none,none,some ⟨drow s (4*i),t2,0,false⟩],N⟩

def SmI5_5 (s:S8) (i:Nat) (k:Nat) (e:Env) (m:HM):Prop:=
 ∃ (j t0 t2:Nat) (N:Base),j≤4∧k=4-j ∧
  e=[(61,.one (.int .i64 (j:Int))),(57,.one (.int .i64 (i:Int))),(56,.agg s.cells),(8,.one (w32 (s.get i))),(7,.one (.int .i64 (i:Int))),(6,.one (.ptr (some (.loc 7 0)))),(2,.one (.ptr (some (.loc 0 0))))] ∧
  m=⟨[d0 t0,none,none,none,none,none,none,some ⟨drow s (4*i+j),t2,0,false⟩],N⟩

set_option maxHeartbeats 2000000 in
set_option maxRecDepth 100000 in
theorem sum_hc {A:Base} {a:Addr} {s:S8} {n cap:Nat} {q:Option SP} {R:List Int} (hTb:Tab A) (hh:ERead A true 8 (a.add 0) (.agg s.cells)) (hr:ERead A false 1 (a.add 8) (.one (.slice q R.length cap)))
  (hnn:ERead A false 1 (a.add 9) (.one (.int .i64 (n:Int)))) (hs:Sl A 1 (.one (.slice q R.length cap)) (ones (u8s R))) (hR64:R.length<64) :
  HC PG A f_sha_Hash_Sum [.one (.ptr (some (.ext a)))] fun v _=>v=.agg (u8s (dgl (finS s R n))):=by
 have hblk20:∀ (c:Con) (ρ:Ren) (g:Nat),(⟨u8s (C2 R n 0),t_uint8,g*1,true⟩:Blk)=⟨rnL F0 c ρ (u8s (C1 R (zc R.length))),t_uint8,g*1,true⟩:=fun c ρ g=>by
  rw [rnL_id (ints_cl _ _ 0)]
  unfold C2
  rw [List.take_zero,List.append_nil]
 have hblk10:∀ (c:Con) (ρ:Ren) (g:Nat),(⟨u8s (C1 R 0),t_uint8,g*1,true⟩:Blk)=⟨rnL F0 c ρ (u8s R++[.int .u8 128]),t_uint8,g*1,true⟩:=fun c ρ g=>by
  rw [show [Sc.int .u8 128]=u8s [128] from rfl,u8s_app,rnL_id (ints_cl _ _ 0)]
  unfold C1
  rw [List.replicate_zero,List.append_nil]
 refine hc_start (fun _=>none) h_sha_Hash_Sum rfl (by kernel_rfl) (sum_ok A) rfl ?_
 refine swp_cut fun K hK hR _=>?_
 conv=>whnf
 refine hK _ _ ?_
 clear hK hR
 refine swp_cut fun K hK hR _=>?_
 iterate 3 (refine aops_step fun T S hT hS=>?_; (conv=>whnf); refine hT _ _ ?_)
 refine aops_step fun T S hT hS=>?_
 conv=>whnf
 refine ⟨_,ERead_l hr,?_⟩
 refine hT _ _ ?_
 refine aops_step fun T S hT hS=>?_
 conv=>whnf
 refine ⟨u8s R,hs.has (by rw [List.length_map]),by rw [List.length_map,Nat.mul_one],rfl,?_⟩
 conv=>whnf
 cases h0:Nat.beq R.length 0 with
 | true=>
  obtain rfl:R=[]:=List.length_eq_zero_iff.1 (nbeq.1 h0)
  refine hT _ _ ?_
  refine aops_step fun T S hT hS=>?_
  conv=>whnf
  refine hT _ _ ?_
  refine aops_end ?_
  refine hK _ _ ?_
  clear hK hR
  refine swp_cut fun K hK hR _=>?_
  iterate 2 (refine aops_step fun T S hT hS=>?_; (conv=>whnf); refine hT _ _ ?_)
  refine aops_step fun T S hT hS=>?_
  conv=>whnf
  refine ⟨[.int .u8 128],rfl,rfl,rfl,?_⟩
  conv=>whnf
  refine ⟨⟨by omega,by omega⟩,by omega,fun cap2 hcap2=>?_⟩
  conv=>whnf
  refine hT _ _ ?_
  refine aops_step fun T S hT hS=>?_
  conv=>whnf
  refine hT _ _ ?_
  refine aops_end ?_
  refine hK _ _ ?_
  clear hK hR
  refine swp_cut fun K hK hR _=>?_
  conv=>whnf
  refine .inr (loop_invR (gH A _) (SmI1_2 a ([]:List Int)) ?_ ?_)
  ·intro k' e' m' hI
   obtain ⟨z,t0,cap,N,hz,rfl,hcap,⟨hz0,rfl,rfl⟩ | ⟨hz0,rfl,rfl⟩⟩:=hI
   ·conv=>whnf
    cases hq:(((([]:List Int).length+1+z:Nat):Int).tmod 64 != 56) with
    | true=>
     have hzlt:z<zc ([]:List Int).length:=zc_lt hR64 hz hq
     conv=>whnf
     refine ⟨[.int .u8 0],rfl,rfl,rfl,?_⟩
     conv=>whnf
     refine ⟨by rw [List.length_map,C1_len,Nat.mul_one],hcap,rfl,rfl,⟨by unfold zc at hz; omega,by omega⟩,fun cap' hcap'=>?_⟩
     conv=>whnf
     have hblk:∀ (c:Con) (ρ:Ren),(⟨u8s (C1 ([]:List Int) (z+1)),t_uint8,cap'*1,true⟩:Blk)=⟨rnL F0 c ρ (u8s (C1 ([]:List Int) z)++[.int .u8 0]),t_uint8,cap'*1,true⟩:=fun c ρ=>by
      rw [show [Sc.int .u8 0]=u8s [0] from rfl,u8s_app,C1_succ,rnL_id (ints_cl _ _ 0)]
     refine ⟨zc ([]:List Int).length-(z+1),F0,tp 3 4,by omega,tp_ok (by exact Nat.le_of_ble_eq_true rfl) (by exact Nat.le_of_ble_eq_true rfl),fun c N1 _ _=>⟨_,_,wkR_of (by (repeat' apply And.intro)<;>first | trivial | exact ⟨_,rfl,rfl,rfl⟩) (by (repeat' apply And.intro)<;>first | trivial | rfl | exact ⟨_,rfl,hblk c _,ints_cl _ _ _⟩ | exact ⟨_,rfl,rfl,rfl⟩) (by exact Nat.le_of_ble_eq_true rfl),⟨z+1,t0,cap',N1,hzlt,rfl,hcap',.inr ⟨by omega,rfl,rfl⟩⟩⟩⟩
    | false=>
     have hzeq:z=zc ([]:List Int).length:=zc_eq hR64 hz hq
     exact absurd (hzeq.symm.trans hz0) (by unfold zc; decide)
   ·conv=>whnf
    cases hq:(((([]:List Int).length+1+z:Nat):Int).tmod 64 != 56) with
    | true=>
     have hzlt:z<zc ([]:List Int).length:=zc_lt hR64 hz hq
     conv=>whnf
     refine ⟨[.int .u8 0],rfl,rfl,rfl,?_⟩
     conv=>whnf
     refine ⟨by rw [List.length_map,C1_len,Nat.mul_one],hcap,rfl,rfl,⟨by unfold zc at hz; omega,by omega⟩,fun cap' hcap'=>?_⟩
     conv=>whnf
     have hblk:∀ (c:Con) (ρ:Ren),(⟨u8s (C1 ([]:List Int) (z+1)),t_uint8,cap'*1,true⟩:Blk)=⟨rnL F0 c ρ (u8s (C1 ([]:List Int) z)++[.int .u8 0]),t_uint8,cap'*1,true⟩:=fun c ρ=>by
      rw [show [Sc.int .u8 0]=u8s [0] from rfl,u8s_app,C1_succ,rnL_id (ints_cl _ _ 0)]
     refine ⟨zc ([]:List Int).length-(z+1),F0,tp 3 5,by omega,tp_ok (by exact Nat.le_of_ble_eq_true rfl) (by exact Nat.le_of_ble_eq_true rfl),fun c N1 _ _=>⟨_,_,wkR_of (by (repeat' apply And.intro)<;>first | trivial | exact ⟨_,rfl,rfl,rfl⟩) (by (repeat' apply And.intro)<;>first | trivial | rfl | exact ⟨_,rfl,hblk c _,ints_cl _ _ _⟩ | exact ⟨_,rfl,rfl,rfl⟩) (by exact Nat.le_of_ble_eq_true rfl),⟨z+1,t0,cap',N1,hzlt,rfl,hcap',.inr ⟨by omega,rfl,rfl⟩⟩⟩⟩
    | false=>
     have hzeq:z=zc ([]:List Int).length:=zc_eq hR64 hz hq
     subst hzeq
     conv=>whnf
     refine hK _ _ ?_
     clear hK hR
     refine swp_cut fun K hK hR _=>?_
     refine swp_cut fun K2 hK2 hR2 _=>?_
     conv=>whnf
     refine hK2 _ _ ?_
     clear hK2 hR2
     conv=>whnf
     refine .inr (loop_invR (gH A _) (SmI2_3 a ([]:List Int) n) ?_ ?_)
     ·intro k' e' m' hI
      obtain ⟨i,t0,cap,N,hi8,rfl,hcap,⟨hi0,rfl,rfl⟩ | ⟨hi0,rfl,rfl⟩⟩:=hI
      ·conv=>whnf
       cases hlt:decide ((i:Int)<8) with
       | true=>
        have hi:i<8:=by have:=of_decide_eq_true hlt; omega
        have e8:wr .i64 (8*(i:Int))=.int .i64 ((8*i:Nat):Int):=by
         simp only [wr]
         rw [wrapN (n:=8*i) (by omega) (by omega)]
        have e56:wr .i64 (56-((8*i:Nat):Int))=.int .i64 ((56-8*i:Nat):Int):=by
         simp only [wr]
         rw [wrapN (n:=56-8*i) (by omega) (by omega)]
        show swpC _ (Code.seq _ _) _ _ _
        refine swp_cut fun K4 hK4 hR4 _=>?_
        show swpC _ (Code.seq _ _) _ _ _
        refine swp_cut fun K3 hK3 hR3 _=>?_
        conv=>whnf
        refine hK3 _ _ ?_
        clear hK3 hR3
        iterate 4 (refine aops_step fun T S hT hS=>?_; (conv=>whnf); refine hT _ _ ?_)
        refine aops_step fun T S hT hS=>?_
        conv=>whnf
        refine ⟨_,ERead_l hnn,?_⟩
        refine hT _ _ ?_
        iterate 3 (refine aops_step fun T S hT hS=>?_; (conv=>whnf); refine hT _ _ ?_)
        refine aops_step fun T S hT hS=>?_
        conv=>whnf
        rw [e8]
        refine hT _ _ ?_
        refine aops_step fun T S hT hS=>?_
        conv=>whnf
        rw [e56]
        refine hT _ _ ?_
        iterate 3 (refine aops_step fun T S hT hS=>?_; (conv=>whnf); refine hT _ _ ?_)
        refine aops_step fun T S hT hS=>?_
        conv=>whnf
        refine ⟨[.int .u8 (bt n i)],rfl,rfl,rfl,?_⟩
        conv=>whnf
        refine ⟨by rw [List.length_map,C2_len ([]:List Int) n hi8,Nat.mul_one],hcap,rfl,rfl,⟨by unfold zc; omega,by omega⟩,fun cap' hcap'=>?_⟩
        conv=>whnf
        refine hT _ _ ?_
        refine aops_step fun T S hT hS=>?_
        conv=>whnf
        refine hT _ _ ?_
        refine aops_end ?_
        refine hK4 _ _ ?_
        clear hK4 hR4
        conv=>whnf
        have hblk:∀ (c:Con) (ρ:Ren),(⟨u8s (C2 ([]:List Int) n (i+1)),t_uint8,cap'*1,true⟩:Blk)=⟨rnL F0 c ρ (u8s (C2 ([]:List Int) n i)++[.int .u8 (bt n i)]),t_uint8,cap'*1,true⟩:=fun c ρ=>by
         rw [show [Sc.int .u8 (bt n i)]=u8s [bt n i] from rfl,u8s_app,C2_succ ([]:List Int) n hi,rnL_id (ints_cl _ _ 0)]
        refine ⟨8-(i+1),F0,tp 4 5,by omega,tp_ok (by exact Nat.le_of_ble_eq_true rfl) (by exact Nat.le_of_ble_eq_true rfl),fun c N1 _ _=>⟨_,_,wkR_of (by (repeat' apply And.intro)<;>first | trivial | exact ⟨_,rfl,tv_inc (n:=8) hi (by omega),rfl⟩ | exact ⟨_,rfl,rfl,rfl⟩) (by (repeat' apply And.intro)<;>first | trivial | rfl | exact ⟨_,rfl,hblk c _,ints_cl _ _ _⟩ | exact ⟨_,rfl,rfl,rfl⟩) (by exact Nat.le_of_ble_eq_true rfl),⟨i+1,t0,cap',N1,hi,rfl,hcap',.inr ⟨by omega,rfl,rfl⟩⟩⟩⟩
       | false=>
        exact absurd (of_decide_eq_false hlt) (by omega)
      ·conv=>whnf
       cases hlt:decide ((i:Int)<8) with
       | true=>
        have hi:i<8:=by have:=of_decide_eq_true hlt; omega
        have e8:wr .i64 (8*(i:Int))=.int .i64 ((8*i:Nat):Int):=by
         simp only [wr]
         rw [wrapN (n:=8*i) (by omega) (by omega)]
        have e56:wr .i64 (56-((8*i:Nat):Int))=.int .i64 ((56-8*i:Nat):Int):=by
         simp only [wr]
         rw [wrapN (n:=56-8*i) (by omega) (by omega)]
        show swpC _ (Code.seq _ _) _ _ _
        refine swp_cut fun K4 hK4 hR4 _=>?_
        show swpC _ (Code.seq _ _) _ _ _
        refine swp_cut fun K3 hK3 hR3 _=>?_
        conv=>whnf
        refine hK3 _ _ ?_
        clear hK3 hR3
        iterate 4 (refine aops_step fun T S hT hS=>?_; (conv=>whnf); refine hT _ _ ?_)
        refine aops_step fun T S hT hS=>?_
        conv=>whnf
        refine ⟨_,ERead_l hnn,?_⟩
        refine hT _ _ ?_
        iterate 3 (refine aops_step fun T S hT hS=>?_; (conv=>whnf); refine hT _ _ ?_)
        refine aops_step fun T S hT hS=>?_
        conv=>whnf
        rw [e8]
        refine hT _ _ ?_
        refine aops_step fun T S hT hS=>?_
        conv=>whnf
        rw [e56]
        refine hT _ _ ?_
        iterate 3 (refine aops_step fun T S hT hS=>?_; (conv=>whnf); refine hT _ _ ?_)
        refine aops_step fun T S hT hS=>?_
        conv=>whnf
        refine ⟨[.int .u8 (bt n i)],rfl,rfl,rfl,?_⟩
        conv=>whnf
        refine ⟨by rw [List.length_map,C2_len ([]:List Int) n hi8,Nat.mul_one],hcap,rfl,rfl,⟨by unfold zc; omega,by omega⟩,fun cap' hcap'=>?_⟩
        conv=>whnf
        refine hT _ _ ?_
        refine aops_step fun T S hT hS=>?_
        conv=>whnf
        refine hT _ _ ?_
        refine aops_end ?_
        refine hK4 _ _ ?_
        clear hK4 hR4
        conv=>whnf
        have hblk:∀ (c:Con) (ρ:Ren),(⟨u8s (C2 ([]:List Int) n (i+1)),t_uint8,cap'*1,true⟩:Blk)=⟨rnL F0 c ρ (u8s (C2 ([]:List Int) n i)++[.int .u8 (bt n i)]),t_uint8,cap'*1,true⟩:=fun c ρ=>by
         rw [show [Sc.int .u8 (bt n i)]=u8s [bt n i] from rfl,u8s_app,C2_succ ([]:List Int) n hi,rnL_id (ints_cl _ _ 0)]
        refine ⟨8-(i+1),F0,tp 4 6,by omega,tp_ok (by exact Nat.le_of_ble_eq_true rfl) (by exact Nat.le_of_ble_eq_true rfl),fun c N1 _ _=>⟨_,_,wkR_of (by (repeat' apply And.intro)<;>first | trivial | exact ⟨_,rfl,tv_inc (n:=8) hi (by omega),rfl⟩ | exact ⟨_,rfl,rfl,rfl⟩) (by (repeat' apply And.intro)<;>first | trivial | rfl | exact ⟨_,rfl,hblk c _,ints_cl _ _ _⟩ | exact ⟨_,rfl,rfl,rfl⟩) (by exact Nat.le_of_ble_eq_true rfl),⟨i+1,t0,cap',N1,hi,rfl,hcap',.inr ⟨by omega,rfl,rfl⟩⟩⟩⟩
       | false=>
        obtain rfl:i=8:=by have:=of_decide_eq_false hlt; omega
        conv=>whnf
        refine hK _ _ ?_
        clear hK hR
        have hBl:=last_len ([]:List Int) n
        have hB64:(last ([]:List Int) n).length%64=0:=by rw [hBl]; unfold zc; omega
        have hBl8:([]:List Int).length+1+zc ([]:List Int).length+8=(last ([]:List Int) n).length:=hBl.symm
        have hBm:(last ([]:List Int) n).length≤200:=by rw [hBl]; unfold zc; omega
        rw [C2_8,hBl8]
        rw [hBl8] at hcap
        unfold finS
        clear hBl hBl8
        generalize last ([]:List Int) n=B at *
        refine swp_cut fun K hK hR _=>?_
        iterate 3 (refine aops_step fun T S hT hS=>?_; (conv=>whnf); refine hT _ _ ?_)
        refine aops_step fun T S hT hS=>?_
        conv=>whnf
        refine ⟨_,ERead_l hh,?_⟩
        refine hT _ _ ?_
        iterate 2 (refine aops_step fun T S hT hS=>?_; (conv=>whnf); refine hT _ _ ?_)
        refine aops_end ?_
        refine hK _ _ ?_
        clear hK hR
        refine swp_cut fun K hK hR _=>?_
        conv=>whnf
        refine .inr (loop_invC (gH A _) (SmI3_4 s B) ?_ ?_)
        ·intro k' e' m' hI
         obtain ⟨j,t0,t1,g,off,cap,N,hj,rfl,hcap,hoff,rfl,rfl⟩:=hI
         conv=>whnf
         cases hlt:decide (((B.length-64*j:Nat):Int) > 0) with
         | true=>
          have hlt:64*j<B.length:=by have:=of_decide_eq_true hlt; omega
          have hge:64≤B.length-64*j:=by omega
          obtain rfl:=hoff hlt
          have hlen:B.length-64*j-64=B.length-64*(j+1):=by omega
          have d1:decide (B.length-64*j≤cap∧(0:Int)≤64∧(64:Int)≤(cap:Int)∧(0:Int)≤((0:Nat):Int)∧((0:Nat):Int)≤64)=true:=decide_eq_true ⟨hcap,by omega,by omega,by omega,by omega⟩
          have d2:decide (B.length-64*j≤cap∧(0:Int)≤((B.length-64*j:Nat):Int)∧((B.length-64*j:Nat):Int)≤(cap:Int)∧(0:Int)≤64∧(64:Int)≤((B.length-64*j:Nat):Int))=true:=decide_eq_true ⟨hcap,by omega,by omega,by omega,by omega⟩
          have hb0:Nat.beq (((0:Nat):Int).toNat) cap=false:=by
           cases hh:Nat.beq (((0:Nat):Int).toNat) cap with
           | false=>rfl
           | true=>
            have:0=cap:=nbeq.1 hh
            omega
          have hP:((B.drop (64*j)).take 64).length=64:=by rw [List.length_take,List.length_drop]; omega
          have hdr:(u8s B).drop (64*j)=(ones (u8s ((B.drop (64*j)).take 64))).flatten++u8s (B.drop (64*j+64)):=by
           rw [ones_flat,u8s_app,← List.map_drop,show B.drop (64*j+64)=(B.drop (64*j)).drop 64 by rw [List.drop_drop],List.take_append_drop]
          show swpC _ (Code.seq _ _) _ _ _
          refine swp_cut fun K4 hK4 hR4 _=>?_
          iterate 2 (refine aops_step fun T S hT hS=>?_; (conv=>whnf); refine hT _ _ ?_)
          refine aops_step fun T S hT hS=>?_
          conv=>whnf
          rw [d1]
          conv=>whnf
          rw [hb0]
          conv=>whnf
          show T (.one (.slice (some (.loc 4 (64*j))) 64 cap)) _
          refine hT _ _ ?_
          refine aops_step fun T S hT hS=>?_
          conv=>whnf
          refine ⟨fun v _=>v=.agg (runP B s (j+1)).cells,fun c B' hB hL=>mixed_hc (A:=B') (s:=runP B s j) (P:=(B.drop (64*j)).take 64) hP (ERead_le (fun r o h=>hB r o (.inl h)) hTb) (q:=some (.ext ⟨c.ι 4,64*j,none⟩)) (cap:=cap) (sl_lent (b:=4) (o:=64*j) (L:=ones (u8s ((B.drop (64*j)).take 64))) (post:=u8s (B.drop (64*j+64))) hL rfl (ints_cl _ _ 0) hdr (by rw [u8s_len]; exact hP.symm) (by rw [u8s_len,hP]; omega) (by rw [u8s_len,hP]; omega) (ones_es _)),⟨_,B0,rfl,rfl⟩,?_⟩
          rintro v N' _ rfl N1 _
          refine hT _ _ ?_
          refine aops_step fun T S hT hS=>?_
          conv=>whnf
          refine hT _ _ ?_
          refine aops_end ?_
          refine hK4 _ _ ?_
          clear hK4 hR4
          refine aops_step fun T S hT hS=>?_
          conv=>whnf
          refine hT _ _ ?_
          refine aops_step fun T S hT hS=>?_
          conv=>whnf
          rw [d2]
          conv=>whnf
          cases h64:Nat.beq (Int.toNat 64) cap with
          | true=>
           have h64:64=cap:=nbeq.1 h64
           conv=>whnf
           show T (.one (.slice (some (.loc 4 (64*j))) (B.length-64*j-64) (cap-64))) _
           rw [hlen]
           refine hT _ _ ?_
           refine aops_step fun T S hT hS=>?_
           conv=>whnf
           refine hT _ _ ?_
           refine aops_end ?_
           conv=>whnf
           refine ⟨B.length-64*(j+1),F0,by omega,fun c N1 _ _=>⟨_,_,wk_of (by (repeat' apply And.intro)<;>first | trivial | exact ⟨_,rfl,rfl,rfl⟩) (by (repeat' apply And.intro)<;>first | trivial | rfl | exact ⟨_,rfl,u8_blk B _ _ _ _ _,ints_cl _ _ _⟩ | exact ⟨_,rfl,rfl,rfl⟩) (by exact Nat.le_of_ble_eq_true rfl) (by exact Nat.le_of_ble_eq_true rfl),⟨j+1,t0,t1,g,(64*j),cap-64,N1,by omega,rfl,by omega,fun h=>by omega,rfl,rfl⟩⟩⟩
          | false=>
           conv=>whnf
           show T (.one (.slice (some (.loc 4 (64*j+64))) (B.length-64*j-64) (cap-64))) _
           rw [hlen]
           refine hT _ _ ?_
           refine aops_step fun T S hT hS=>?_
           conv=>whnf
           refine hT _ _ ?_
           refine aops_end ?_
           conv=>whnf
           refine ⟨B.length-64*(j+1),F0,by omega,fun c N1 _ _=>⟨_,_,wk_of (by (repeat' apply And.intro)<;>first | trivial | exact ⟨_,rfl,rfl,rfl⟩) (by (repeat' apply And.intro)<;>first | trivial | rfl | exact ⟨_,rfl,u8_blk B _ _ _ _ _,ints_cl _ _ _⟩ | exact ⟨_,rfl,rfl,rfl⟩) (by exact Nat.le_of_ble_eq_true rfl) (by exact Nat.le_of_ble_eq_true rfl),⟨j+1,t0,t1,g,(64*j+64),cap-64,N1,by omega,rfl,by omega,fun h=>by omega,rfl,rfl⟩⟩⟩
         | false=>
          have hj64:j=B.length/64:=by have:=of_decide_eq_false hlt; omega
          conv=>whnf
          refine hK _ _ ?_
          clear hK hR
          rw [← hj64]
          generalize runP B s j=sf at *
          refine swp_cut fun K hK hR _=>?_
          conv=>whnf
          refine hK _ _ ?_
          clear hK hR
          refine swp_cut fun K hK hR _=>?_
          refine swp_cut fun K2 hK2 hR2 _=>?_
          conv=>whnf
          refine hK2 _ _ ?_
          clear hK2 hR2
          conv=>whnf
          refine .inr (loop_invC (gH A _) (SmI4_4 sf) ?_ ?_)
          ·intro k' e' m' hI
           obtain ⟨i,t0,t2,N,hi8,rfl,rfl,rfl⟩:=hI
           conv=>whnf
           cases hlt:decide ((i:Int)<8) with
           | true=>
            have hi:i<8:=by have:=of_decide_eq_true hlt; omega
            show swpC _ (Code.seq _ _) _ _ _
            refine swp_cut fun K4 hK4 hR4 _=>?_
            show swpC _ (Code.seq _ _) _ _ _
            refine swp_cut fun K3 hK3 hR3 _=>?_
            refine aops_step fun T S hT hS=>?_
            conv=>whnf
            refine hT _ _ ?_
            refine aops_step fun T S hT hS=>?_
            conv=>whnf
            rw [dec_idx (n:=8) hi]
            conv=>whnf
            conv in (takeAt _ _ _)=>change takeAt sf.cells (i*1) 1; rw [get_take sf hi]
            conv=>whnf
            refine hT _ _ ?_
            iterate 2 (refine aops_step fun T S hT hS=>?_; (conv=>whnf); refine hT _ _ ?_)
            refine aops_end ?_
            refine hK3 _ _ ?_
            clear hK3 hR3
            refine swp_cut fun K3 hK3 hR3 _=>?_
            conv=>whnf
            refine hK3 _ _ ?_
            clear hK3 hR3
            conv=>whnf
            refine .inr (loop_invC (gH A _) (SmI5_4 sf i) ?_ ?_)
            ·intro k' e' m' hI
             obtain ⟨k,t0,t2,N,hk4,rfl,rfl,rfl⟩:=hI
             conv=>whnf
             cases hlt2:decide ((k:Int)<4) with
             | true=>
              have hk:k<4:=by have:=of_decide_eq_true hlt2; omega
              have e4:wr .i64 (4*(i:Int))=.int .i64 ((4*i:Nat):Int):=by
               simp only [wr]
               rw [wrapN (n:=4*i) (by omega) (by omega)]
              have e41:wr .i64 (((4*i:Nat):Int)+(k:Int))=.int .i64 ((4*i+k:Nat):Int):=by
               simp only [wr]
               rw [wrapN (n:=4*i+k) (by omega) (by omega)]
              have e8:wr .i64 (8*(k:Int))=.int .i64 ((8*k:Nat):Int):=by
               simp only [wr]
               rw [wrapN (n:=8*k) (by omega) (by omega)]
              have e24:wr .i64 (24-((8*k:Nat):Int))=.int .i64 ((24-8*k:Nat):Int):=by
               simp only [wr]
               rw [wrapN (n:=24-8*k) (by omega) (by omega)]
              have h32:4*i+k<32:=by omega
              show swpC _ (Code.seq _ _) _ _ _
              refine swp_cut fun K5 hK5 hR5 _=>?_
              show swpC _ (Code.seq _ _) _ _ _
              refine swp_cut fun K3 hK3 hR3 _=>?_
              conv=>whnf
              refine hK3 _ _ ?_
              clear hK3 hR3
              refine aops_step fun T S hT hS=>?_
              conv=>whnf
              refine hT _ _ ?_
              refine aops_step fun T S hT hS=>?_
              conv=>whnf
              rw [e4]
              refine hT _ _ ?_
              refine aops_step fun T S hT hS=>?_
              conv=>whnf
              refine hT _ _ ?_
              refine aops_step fun T S hT hS=>?_
              conv=>whnf
              rw [e41]
              refine hT _ _ ?_
              iterate 2 (refine aops_step fun T S hT hS=>?_; (conv=>whnf); refine hT _ _ ?_)
              refine aops_step fun T S hT hS=>?_
              conv=>whnf
              rw [e8]
              refine hT _ _ ?_
              refine aops_step fun T S hT hS=>?_
              conv=>whnf
              rw [e24]
              refine hT _ _ ?_
              iterate 2 (refine aops_step fun T S hT hS=>?_; (conv=>whnf); refine hT _ _ ?_)
              refine aops_step fun T S hT hS=>?_
              conv=>whnf
              rw [dec_idx (n:=32) h32]
              conv=>whnf
              refine hT _ _ ?_
              refine aops_step fun T S hT hS=>?_
              conv=>whnf
              conv in (putAt _ _ _)=>change putAt (drow sf (4*i+k)) (0+(4*i+k)*1) [(.int .u8 ((sf.get i).fdiv (2^(min (24-8*k) 32))%256))]; rw [drow_put sf hi hk]
              conv=>whnf
              refine hT _ _ ?_
              refine aops_end ?_
              refine hK5 _ _ ?_
              clear hK5 hR5
              conv=>whnf
              refine ⟨4-(k+1),F0,by omega,fun c N1 _ _=>⟨_,_,wk_of (by (repeat' apply And.intro)<;>first | trivial | exact ⟨_,rfl,tv_inc (n:=4) hk (by omega),rfl⟩ | exact ⟨_,rfl,rfl,rfl⟩) (by (repeat' apply And.intro)<;>first | trivial | rfl | exact ⟨_,rfl,drow_blk sf (4*i+k+1) _ _ _,drow_cl sf (4*i+k+1) _⟩ | exact ⟨_,rfl,rfl,rfl⟩) (by exact Nat.le_of_ble_eq_true rfl) (by exact Nat.le_of_ble_eq_true rfl),⟨k+1,t0,t2,N1,hk,rfl,rfl,rfl⟩⟩⟩
             | false=>
              obtain rfl:k=4:=by have:=of_decide_eq_false hlt2; omega
              conv=>whnf
              refine hK4 _ _ ?_
              clear hK4 hR4
              conv=>whnf
              refine ⟨8-(i+1),F0,by omega,fun c N1 _ _=>⟨_,_,wk_of (by (repeat' apply And.intro)<;>first | trivial | exact ⟨_,rfl,tv_inc (n:=8) hi (by omega),rfl⟩ | exact ⟨_,rfl,rfl,rfl⟩) (by (repeat' apply And.intro)<;>first | trivial | rfl | exact ⟨_,rfl,drow_blk sf (4*i+4) _ _ _,drow_cl sf (4*i+4) _⟩ | exact ⟨_,rfl,rfl,rfl⟩) (by exact Nat.le_of_ble_eq_true rfl) (by exact Nat.le_of_ble_eq_true rfl),⟨i+1,t0,t2,N1,hi,rfl,rfl,rfl⟩⟩⟩
            ·refine ⟨4,F0,fun c N1 _ _=>⟨_,_,wk_of (by (repeat' apply And.intro)<;>first | trivial | exact ⟨_,rfl,rfl,rfl⟩) (by (repeat' apply And.intro)<;>first | trivial | rfl | exact ⟨_,rfl,drow_blk sf (4*i) _ _ _,drow_cl sf (4*i) _⟩ | exact ⟨_,rfl,rfl,rfl⟩) (by exact Nat.le_of_ble_eq_true rfl) (by exact Nat.le_of_ble_eq_true rfl),⟨0,t0,t2,N1,by omega,rfl,rfl,rfl⟩⟩⟩
           | false=>
            obtain rfl:i=8:=by have:=of_decide_eq_false hlt; omega
            conv=>whnf
            refine hK _ _ ?_
            clear hK hR
            rw [show 4*8=32 from rfl,drow_32]
            conv=>whnf
            intro c N2 _ _
            rfl
          ·refine ⟨8,F0,fun c N1 _ _=>⟨_,_,wk_of (by (repeat' apply And.intro)<;>first | trivial | exact ⟨_,rfl,rfl,rfl⟩) (by (repeat' apply And.intro)<;>first | trivial | rfl | exact ⟨_,rfl,drow_blk0 sf _ _ _,drow_cl sf 0 _⟩ | exact ⟨_,rfl,rfl,rfl⟩) (by exact Nat.le_of_ble_eq_true rfl) (by exact Nat.le_of_ble_eq_true rfl),⟨0,t0,_,N1,by omega,rfl,rfl,rfl⟩⟩⟩
        ·refine ⟨B.length,F0,fun c N1 _ _=>⟨_,_,wk_of (by (repeat' apply And.intro)<;>first | trivial | exact ⟨_,rfl,rfl,rfl⟩) (by (repeat' apply And.intro)<;>first | trivial | rfl | exact ⟨_,rfl,u8_blk B _ _ _ _ _,ints_cl _ _ _⟩ | exact ⟨_,rfl,rfl,rfl⟩) (by exact Nat.le_of_ble_eq_true rfl) (by exact Nat.le_of_ble_eq_true rfl),⟨0,t0,_,_,0,cap,N1,by omega,rfl,hcap,fun _=>rfl,rfl,rfl⟩⟩⟩
     ·refine ⟨8,F0,ren0,ren0_ok _,fun c N1 _ _=>⟨_,_,wkR_of (by (repeat' apply And.intro)<;>first | trivial | exact ⟨_,rfl,rfl,rfl⟩) (by (repeat' apply And.intro)<;>first | trivial | rfl | exact ⟨_,rfl,hblk20 c _ _,ints_cl _ _ _⟩ | exact ⟨_,rfl,rfl,rfl⟩) (by exact Nat.le_of_ble_eq_true rfl),⟨0,_,cap,N1,by omega,rfl,hcap,.inl ⟨rfl,rfl,rfl⟩⟩⟩⟩
  ·refine ⟨zc ([]:List Int).length,F0,ren0,ren0_ok _,fun c N1 _ _=>⟨_,_,wkR_of (by (repeat' apply And.intro)<;>first | trivial | exact ⟨_,rfl,rfl,rfl⟩) (by (repeat' apply And.intro)<;>first | trivial | rfl | exact ⟨_,rfl,hblk10 c _ _,ints_cl _ _ _⟩ | exact ⟨_,rfl,rfl,rfl⟩) (by exact Nat.le_of_ble_eq_true rfl),⟨0,_,cap2,N1,Nat.zero_le _,rfl,hcap2,.inl ⟨rfl,rfl,rfl⟩⟩⟩⟩
 | false=>
  have h0:R.length≠0:=fun h=>by rw [h] at h0; cases h0
  refine ⟨⟨by omega,by omega⟩,by omega,fun cap1 hcap1=>?_⟩
  conv=>whnf
  refine hT _ _ ?_
  refine aops_step fun T S hT hS=>?_
  conv=>whnf
  refine hT _ _ ?_
  refine aops_end ?_
  refine hK _ _ ?_
  clear hK hR
  refine swp_cut fun K hK hR _=>?_
  iterate 2 (refine aops_step fun T S hT hS=>?_; (conv=>whnf); refine hT _ _ ?_)
  refine aops_step fun T S hT hS=>?_
  conv=>whnf
  refine ⟨[.int .u8 128],rfl,rfl,rfl,?_⟩
  conv=>whnf
  refine ⟨by rw [List.length_map,Nat.mul_one],hcap1,rfl,rfl,⟨by omega,by omega⟩,fun cap2 hcap2=>?_⟩
  conv=>whnf
  refine hT _ _ ?_
  refine aops_step fun T S hT hS=>?_
  conv=>whnf
  refine hT _ _ ?_
  refine aops_end ?_
  refine hK _ _ ?_
  clear hK hR
  refine swp_cut fun K hK hR _=>?_
  conv=>whnf
  refine .inr (loop_invR (gH A _) (SmI1_3 a R) ?_ ?_)
  ·intro k' e' m' hI
   obtain ⟨z,t0,cap,N,hz,rfl,hcap,⟨hz0,rfl,rfl⟩ | ⟨hz0,rfl,rfl⟩⟩:=hI
   ·conv=>whnf
    cases hq:(((R.length+1+z:Nat):Int).tmod 64 != 56) with
    | true=>
     have hzlt:z<zc R.length:=zc_lt hR64 hz hq
     conv=>whnf
     refine ⟨[.int .u8 0],rfl,rfl,rfl,?_⟩
     conv=>whnf
     refine ⟨by rw [List.length_map,C1_len,Nat.mul_one],hcap,rfl,rfl,⟨by unfold zc at hz; omega,by omega⟩,fun cap' hcap'=>?_⟩
     conv=>whnf
     have hblk:∀ (c:Con) (ρ:Ren),(⟨u8s (C1 R (z+1)),t_uint8,cap'*1,true⟩:Blk)=⟨rnL F0 c ρ (u8s (C1 R z)++[.int .u8 0]),t_uint8,cap'*1,true⟩:=fun c ρ=>by
      rw [show [Sc.int .u8 0]=u8s [0] from rfl,u8s_app,C1_succ,rnL_id (ints_cl _ _ 0)]
     refine ⟨zc R.length-(z+1),F0,tp 4 5,by omega,tp_ok (by exact Nat.le_of_ble_eq_true rfl) (by exact Nat.le_of_ble_eq_true rfl),fun c N1 _ _=>⟨_,_,wkR_of (by (repeat' apply And.intro)<;>first | trivial | exact ⟨_,rfl,rfl,rfl⟩) (by (repeat' apply And.intro)<;>first | trivial | rfl | exact ⟨_,rfl,hblk c _,ints_cl _ _ _⟩ | exact ⟨_,rfl,rfl,rfl⟩) (by exact Nat.le_of_ble_eq_true rfl),⟨z+1,t0,cap',N1,hzlt,rfl,hcap',.inr ⟨by omega,rfl,rfl⟩⟩⟩⟩
    | false=>
     have hzeq:z=zc R.length:=zc_eq hR64 hz hq
     subst hzeq
     conv=>whnf
     refine hK _ _ ?_
     clear hK hR
     refine swp_cut fun K hK hR _=>?_
     refine swp_cut fun K2 hK2 hR2 _=>?_
     conv=>whnf
     refine hK2 _ _ ?_
     clear hK2 hR2
     conv=>whnf
     refine .inr (loop_invR (gH A _) (SmI2_3 a R n) ?_ ?_)
     ·intro k' e' m' hI
      obtain ⟨i,t0,cap,N,hi8,rfl,hcap,⟨hi0,rfl,rfl⟩ | ⟨hi0,rfl,rfl⟩⟩:=hI
      ·conv=>whnf
       cases hlt:decide ((i:Int)<8) with
       | true=>
        have hi:i<8:=by have:=of_decide_eq_true hlt; omega
        have e8:wr .i64 (8*(i:Int))=.int .i64 ((8*i:Nat):Int):=by
         simp only [wr]
         rw [wrapN (n:=8*i) (by omega) (by omega)]
        have e56:wr .i64 (56-((8*i:Nat):Int))=.int .i64 ((56-8*i:Nat):Int):=by
         simp only [wr]
         rw [wrapN (n:=56-8*i) (by omega) (by omega)]
        show swpC _ (Code.seq _ _) _ _ _
        refine swp_cut fun K4 hK4 hR4 _=>?_
        show swpC _ (Code.seq _ _) _ _ _
        refine swp_cut fun K3 hK3 hR3 _=>?_
        conv=>whnf
        refine hK3 _ _ ?_
        clear hK3 hR3
        iterate 4 (refine aops_step fun T S hT hS=>?_; (conv=>whnf); refine hT _ _ ?_)
        refine aops_step fun T S hT hS=>?_
        conv=>whnf
        refine ⟨_,ERead_l hnn,?_⟩
        refine hT _ _ ?_
        iterate 3 (refine aops_step fun T S hT hS=>?_; (conv=>whnf); refine hT _ _ ?_)
        refine aops_step fun T S hT hS=>?_
        conv=>whnf
        rw [e8]
        refine hT _ _ ?_
        refine aops_step fun T S hT hS=>?_
        conv=>whnf
        rw [e56]
        refine hT _ _ ?_
        iterate 3 (refine aops_step fun T S hT hS=>?_; (conv=>whnf); refine hT _ _ ?_)
        refine aops_step fun T S hT hS=>?_
        conv=>whnf
        refine ⟨[.int .u8 (bt n i)],rfl,rfl,rfl,?_⟩
        conv=>whnf
        refine ⟨by rw [List.length_map,C2_len R n hi8,Nat.mul_one],hcap,rfl,rfl,⟨by unfold zc; omega,by omega⟩,fun cap' hcap'=>?_⟩
        conv=>whnf
        refine hT _ _ ?_
        refine aops_step fun T S hT hS=>?_
        conv=>whnf
        refine hT _ _ ?_
        refine aops_end ?_
        refine hK4 _ _ ?_
        clear hK4 hR4
        conv=>whnf
        have hblk:∀ (c:Con) (ρ:Ren),(⟨u8s (C2 R n (i+1)),t_uint8,cap'*1,true⟩:Blk)=⟨rnL F0 c ρ (u8s (C2 R n i)++[.int .u8 (bt n i)]),t_uint8,cap'*1,true⟩:=fun c ρ=>by
         rw [show [Sc.int .u8 (bt n i)]=u8s [bt n i] from rfl,u8s_app,C2_succ R n hi,rnL_id (ints_cl _ _ 0)]
        refine ⟨8-(i+1),F0,tp 4 5,by omega,tp_ok (by exact Nat.le_of_ble_eq_true rfl) (by exact Nat.le_of_ble_eq_true rfl),fun c N1 _ _=>⟨_,_,wkR_of (by (repeat' apply And.intro)<;>first | trivial | exact ⟨_,rfl,tv_inc (n:=8) hi (by omega),rfl⟩ | exact ⟨_,rfl,rfl,rfl⟩) (by (repeat' apply And.intro)<;>first | trivial | rfl | exact ⟨_,rfl,hblk c _,ints_cl _ _ _⟩ | exact ⟨_,rfl,rfl,rfl⟩) (by exact Nat.le_of_ble_eq_true rfl),⟨i+1,t0,cap',N1,hi,rfl,hcap',.inr ⟨by omega,rfl,rfl⟩⟩⟩⟩
       | false=>
        exact absurd (of_decide_eq_false hlt) (by omega)
      ·conv=>whnf
       cases hlt:decide ((i:Int)<8) with
       | true=>
        have hi:i<8:=by have:=of_decide_eq_true hlt; omega
        have e8:wr .i64 (8*(i:Int))=.int .i64 ((8*i:Nat):Int):=by
         simp only [wr]
         rw [wrapN (n:=8*i) (by omega) (by omega)]
        have e56:wr .i64 (56-((8*i:Nat):Int))=.int .i64 ((56-8*i:Nat):Int):=by
         simp only [wr]
         rw [wrapN (n:=56-8*i) (by omega) (by omega)]
        show swpC _ (Code.seq _ _) _ _ _
        refine swp_cut fun K4 hK4 hR4 _=>?_
        show swpC _ (Code.seq _ _) _ _ _
        refine swp_cut fun K3 hK3 hR3 _=>?_
        conv=>whnf
        refine hK3 _ _ ?_
        clear hK3 hR3
        iterate 4 (refine aops_step fun T S hT hS=>?_; (conv=>whnf); refine hT _ _ ?_)
        refine aops_step fun T S hT hS=>?_
        conv=>whnf
        refine ⟨_,ERead_l hnn,?_⟩
        refine hT _ _ ?_
        iterate 3 (refine aops_step fun T S hT hS=>?_; (conv=>whnf); refine hT _ _ ?_)
        refine aops_step fun T S hT hS=>?_
        conv=>whnf
        rw [e8]
        refine hT _ _ ?_
        refine aops_step fun T S hT hS=>?_
        conv=>whnf
        rw [e56]
        refine hT _ _ ?_
        iterate 3 (refine aops_step fun T S hT hS=>?_; (conv=>whnf); refine hT _ _ ?_)
        refine aops_step fun T S hT hS=>?_
        conv=>whnf
        refine ⟨[.int .u8 (bt n i)],rfl,rfl,rfl,?_⟩
        conv=>whnf
        refine ⟨by rw [List.length_map,C2_len R n hi8,Nat.mul_one],hcap,rfl,rfl,⟨by unfold zc; omega,by omega⟩,fun cap' hcap'=>?_⟩
        conv=>whnf
        refine hT _ _ ?_
        refine aops_step fun T S hT hS=>?_
        conv=>whnf
        refine hT _ _ ?_
        refine aops_end ?_
        refine hK4 _ _ ?_
        clear hK4 hR4
        conv=>whnf
        have hblk:∀ (c:Con) (ρ:Ren),(⟨u8s (C2 R n (i+1)),t_uint8,cap'*1,true⟩:Blk)=⟨rnL F0 c ρ (u8s (C2 R n i)++[.int .u8 (bt n i)]),t_uint8,cap'*1,true⟩:=fun c ρ=>by
         rw [show [Sc.int .u8 (bt n i)]=u8s [bt n i] from rfl,u8s_app,C2_succ R n hi,rnL_id (ints_cl _ _ 0)]
        refine ⟨8-(i+1),F0,tp 4 6,by omega,tp_ok (by exact Nat.le_of_ble_eq_true rfl) (by exact Nat.le_of_ble_eq_true rfl),fun c N1 _ _=>⟨_,_,wkR_of (by (repeat' apply And.intro)<;>first | trivial | exact ⟨_,rfl,tv_inc (n:=8) hi (by omega),rfl⟩ | exact ⟨_,rfl,rfl,rfl⟩) (by (repeat' apply And.intro)<;>first | trivial | rfl | exact ⟨_,rfl,hblk c _,ints_cl _ _ _⟩ | exact ⟨_,rfl,rfl,rfl⟩) (by exact Nat.le_of_ble_eq_true rfl),⟨i+1,t0,cap',N1,hi,rfl,hcap',.inr ⟨by omega,rfl,rfl⟩⟩⟩⟩
       | false=>
        obtain rfl:i=8:=by have:=of_decide_eq_false hlt; omega
        conv=>whnf
        refine hK _ _ ?_
        clear hK hR
        have hBl:=last_len R n
        have hB64:(last R n).length%64=0:=by rw [hBl]; unfold zc; omega
        have hBl8:R.length+1+zc R.length+8=(last R n).length:=hBl.symm
        have hBm:(last R n).length≤200:=by rw [hBl]; unfold zc; omega
        rw [C2_8,hBl8]
        rw [hBl8] at hcap
        unfold finS
        clear hBl hBl8
        generalize last R n=B at *
        refine swp_cut fun K hK hR _=>?_
        iterate 3 (refine aops_step fun T S hT hS=>?_; (conv=>whnf); refine hT _ _ ?_)
        refine aops_step fun T S hT hS=>?_
        conv=>whnf
        refine ⟨_,ERead_l hh,?_⟩
        refine hT _ _ ?_
        iterate 2 (refine aops_step fun T S hT hS=>?_; (conv=>whnf); refine hT _ _ ?_)
        refine aops_end ?_
        refine hK _ _ ?_
        clear hK hR
        refine swp_cut fun K hK hR _=>?_
        conv=>whnf
        refine .inr (loop_invC (gH A _) (SmI3_4 s B) ?_ ?_)
        ·intro k' e' m' hI
         obtain ⟨j,t0,t1,g,off,cap,N,hj,rfl,hcap,hoff,rfl,rfl⟩:=hI
         conv=>whnf
         cases hlt:decide (((B.length-64*j:Nat):Int) > 0) with
         | true=>
          have hlt:64*j<B.length:=by have:=of_decide_eq_true hlt; omega
          have hge:64≤B.length-64*j:=by omega
          obtain rfl:=hoff hlt
          have hlen:B.length-64*j-64=B.length-64*(j+1):=by omega
          have d1:decide (B.length-64*j≤cap∧(0:Int)≤64∧(64:Int)≤(cap:Int)∧(0:Int)≤((0:Nat):Int)∧((0:Nat):Int)≤64)=true:=decide_eq_true ⟨hcap,by omega,by omega,by omega,by omega⟩
          have d2:decide (B.length-64*j≤cap∧(0:Int)≤((B.length-64*j:Nat):Int)∧((B.length-64*j:Nat):Int)≤(cap:Int)∧(0:Int)≤64∧(64:Int)≤((B.length-64*j:Nat):Int))=true:=decide_eq_true ⟨hcap,by omega,by omega,by omega,by omega⟩
          have hb0:Nat.beq (((0:Nat):Int).toNat) cap=false:=by
           cases hh:Nat.beq (((0:Nat):Int).toNat) cap with
           | false=>rfl
           | true=>
            have:0=cap:=nbeq.1 hh
            omega
          have hP:((B.drop (64*j)).take 64).length=64:=by rw [List.length_take,List.length_drop]; omega
          have hdr:(u8s B).drop (64*j)=(ones (u8s ((B.drop (64*j)).take 64))).flatten++u8s (B.drop (64*j+64)):=by
           rw [ones_flat,u8s_app,← List.map_drop,show B.drop (64*j+64)=(B.drop (64*j)).drop 64 by rw [List.drop_drop],List.take_append_drop]
          show swpC _ (Code.seq _ _) _ _ _
          refine swp_cut fun K4 hK4 hR4 _=>?_
          iterate 2 (refine aops_step fun T S hT hS=>?_; (conv=>whnf); refine hT _ _ ?_)
          refine aops_step fun T S hT hS=>?_
          conv=>whnf
          rw [d1]
          conv=>whnf
          rw [hb0]
          conv=>whnf
          show T (.one (.slice (some (.loc 4 (64*j))) 64 cap)) _
          refine hT _ _ ?_
          refine aops_step fun T S hT hS=>?_
          conv=>whnf
          refine ⟨fun v _=>v=.agg (runP B s (j+1)).cells,fun c B' hB hL=>mixed_hc (A:=B') (s:=runP B s j) (P:=(B.drop (64*j)).take 64) hP (ERead_le (fun r o h=>hB r o (.inl h)) hTb) (q:=some (.ext ⟨c.ι 4,64*j,none⟩)) (cap:=cap) (sl_lent (b:=4) (o:=64*j) (L:=ones (u8s ((B.drop (64*j)).take 64))) (post:=u8s (B.drop (64*j+64))) hL rfl (ints_cl _ _ 0) hdr (by rw [u8s_len]; exact hP.symm) (by rw [u8s_len,hP]; omega) (by rw [u8s_len,hP]; omega) (ones_es _)),⟨_,B0,rfl,rfl⟩,?_⟩
          rintro v N' _ rfl N1 _
          refine hT _ _ ?_
          refine aops_step fun T S hT hS=>?_
          conv=>whnf
          refine hT _ _ ?_
          refine aops_end ?_
          refine hK4 _ _ ?_
          clear hK4 hR4
          refine aops_step fun T S hT hS=>?_
          conv=>whnf
          refine hT _ _ ?_
          refine aops_step fun T S hT hS=>?_
          conv=>whnf
          rw [d2]
          conv=>whnf
          cases h64:Nat.beq (Int.toNat 64) cap with
          | true=>
           have h64:64=cap:=nbeq.1 h64
           conv=>whnf
           show T (.one (.slice (some (.loc 4 (64*j))) (B.length-64*j-64) (cap-64))) _
           rw [hlen]
           refine hT _ _ ?_
           refine aops_step fun T S hT hS=>?_
           conv=>whnf
           refine hT _ _ ?_
           refine aops_end ?_
           conv=>whnf
           refine ⟨B.length-64*(j+1),F0,by omega,fun c N1 _ _=>⟨_,_,wk_of (by (repeat' apply And.intro)<;>first | trivial | exact ⟨_,rfl,rfl,rfl⟩) (by (repeat' apply And.intro)<;>first | trivial | rfl | exact ⟨_,rfl,u8_blk B _ _ _ _ _,ints_cl _ _ _⟩ | exact ⟨_,rfl,rfl,rfl⟩) (by exact Nat.le_of_ble_eq_true rfl) (by exact Nat.le_of_ble_eq_true rfl),⟨j+1,t0,t1,g,(64*j),cap-64,N1,by omega,rfl,by omega,fun h=>by omega,rfl,rfl⟩⟩⟩
          | false=>
           conv=>whnf
           show T (.one (.slice (some (.loc 4 (64*j+64))) (B.length-64*j-64) (cap-64))) _
           rw [hlen]
           refine hT _ _ ?_
           refine aops_step fun T S hT hS=>?_
           conv=>whnf
           refine hT _ _ ?_
           refine aops_end ?_
           conv=>whnf
           refine ⟨B.length-64*(j+1),F0,by omega,fun c N1 _ _=>⟨_,_,wk_of (by (repeat' apply And.intro)<;>first | trivial | exact ⟨_,rfl,rfl,rfl⟩) (by (repeat' apply And.intro)<;>first | trivial | rfl | exact ⟨_,rfl,u8_blk B _ _ _ _ _,ints_cl _ _ _⟩ | exact ⟨_,rfl,rfl,rfl⟩) (by exact Nat.le_of_ble_eq_true rfl) (by exact Nat.le_of_ble_eq_true rfl),⟨j+1,t0,t1,g,(64*j+64),cap-64,N1,by omega,rfl,by omega,fun h=>by omega,rfl,rfl⟩⟩⟩
         | false=>
          have hj64:j=B.length/64:=by have:=of_decide_eq_false hlt; omega
          conv=>whnf
          refine hK _ _ ?_
          clear hK hR
          rw [← hj64]
          generalize runP B s j=sf at *
          refine swp_cut fun K hK hR _=>?_
          conv=>whnf
          refine hK _ _ ?_
          clear hK hR
          refine swp_cut fun K hK hR _=>?_
          refine swp_cut fun K2 hK2 hR2 _=>?_
          conv=>whnf
          refine hK2 _ _ ?_
          clear hK2 hR2
          conv=>whnf
          refine .inr (loop_invC (gH A _) (SmI4_4 sf) ?_ ?_)
          ·intro k' e' m' hI
           obtain ⟨i,t0,t2,N,hi8,rfl,rfl,rfl⟩:=hI
           conv=>whnf
           cases hlt:decide ((i:Int)<8) with
           | true=>
            have hi:i<8:=by have:=of_decide_eq_true hlt; omega
            show swpC _ (Code.seq _ _) _ _ _
            refine swp_cut fun K4 hK4 hR4 _=>?_
            show swpC _ (Code.seq _ _) _ _ _
            refine swp_cut fun K3 hK3 hR3 _=>?_
            refine aops_step fun T S hT hS=>?_
            conv=>whnf
            refine hT _ _ ?_
            refine aops_step fun T S hT hS=>?_
            conv=>whnf
            rw [dec_idx (n:=8) hi]
            conv=>whnf
            conv in (takeAt _ _ _)=>change takeAt sf.cells (i*1) 1; rw [get_take sf hi]
            conv=>whnf
            refine hT _ _ ?_
            iterate 2 (refine aops_step fun T S hT hS=>?_; (conv=>whnf); refine hT _ _ ?_)
            refine aops_end ?_
            refine hK3 _ _ ?_
            clear hK3 hR3
            refine swp_cut fun K3 hK3 hR3 _=>?_
            conv=>whnf
            refine hK3 _ _ ?_
            clear hK3 hR3
            conv=>whnf
            refine .inr (loop_invC (gH A _) (SmI5_4 sf i) ?_ ?_)
            ·intro k' e' m' hI
             obtain ⟨k,t0,t2,N,hk4,rfl,rfl,rfl⟩:=hI
             conv=>whnf
             cases hlt2:decide ((k:Int)<4) with
             | true=>
              have hk:k<4:=by have:=of_decide_eq_true hlt2; omega
              have e4:wr .i64 (4*(i:Int))=.int .i64 ((4*i:Nat):Int):=by
               simp only [wr]
               rw [wrapN (n:=4*i) (by omega) (by omega)]
              have e41:wr .i64 (((4*i:Nat):Int)+(k:Int))=.int .i64 ((4*i+k:Nat):Int):=by
               simp only [wr]
               rw [wrapN (n:=4*i+k) (by omega) (by omega)]
              have e8:wr .i64 (8*(k:Int))=.int .i64 ((8*k:Nat):Int):=by
               simp only [wr]
               rw [wrapN (n:=8*k) (by omega) (by omega)]
              have e24:wr .i64 (24-((8*k:Nat):Int))=.int .i64 ((24-8*k:Nat):Int):=by
               simp only [wr]
               rw [wrapN (n:=24-8*k) (by omega) (by omega)]
              have h32:4*i+k<32:=by omega
              show swpC _ (Code.seq _ _) _ _ _
              refine swp_cut fun K5 hK5 hR5 _=>?_
              show swpC _ (Code.seq _ _) _ _ _
              refine swp_cut fun K3 hK3 hR3 _=>?_
              conv=>whnf
              refine hK3 _ _ ?_
              clear hK3 hR3
              refine aops_step fun T S hT hS=>?_
              conv=>whnf
              refine hT _ _ ?_
              refine aops_step fun T S hT hS=>?_
              conv=>whnf
              rw [e4]
              refine hT _ _ ?_
              refine aops_step fun T S hT hS=>?_
              conv=>whnf
              refine hT _ _ ?_
              refine aops_step fun T S hT hS=>?_
              conv=>whnf
              rw [e41]
              refine hT _ _ ?_
              iterate 2 (refine aops_step fun T S hT hS=>?_; (conv=>whnf); refine hT _ _ ?_)
              refine aops_step fun T S hT hS=>?_
              conv=>whnf
              rw [e8]
              refine hT _ _ ?_
              refine aops_step fun T S hT hS=>?_
              conv=>whnf
              rw [e24]
              refine hT _ _ ?_
              iterate 2 (refine aops_step fun T S hT hS=>?_; (conv=>whnf); refine hT _ _ ?_)
              refine aops_step fun T S hT hS=>?_
              conv=>whnf
              rw [dec_idx (n:=32) h32]
              conv=>whnf
              refine hT _ _ ?_
              refine aops_step fun T S hT hS=>?_
              conv=>whnf
              conv in (putAt _ _ _)=>change putAt (drow sf (4*i+k)) (0+(4*i+k)*1) [(.int .u8 ((sf.get i).fdiv (2^(min (24-8*k) 32))%256))]; rw [drow_put sf hi hk]
              conv=>whnf
              refine hT _ _ ?_
              refine aops_end ?_
              refine hK5 _ _ ?_
              clear hK5 hR5
              conv=>whnf
              refine ⟨4-(k+1),F0,by omega,fun c N1 _ _=>⟨_,_,wk_of (by (repeat' apply And.intro)<;>first | trivial | exact ⟨_,rfl,tv_inc (n:=4) hk (by omega),rfl⟩ | exact ⟨_,rfl,rfl,rfl⟩) (by (repeat' apply And.intro)<;>first | trivial | rfl | exact ⟨_,rfl,drow_blk sf (4*i+k+1) _ _ _,drow_cl sf (4*i+k+1) _⟩ | exact ⟨_,rfl,rfl,rfl⟩) (by exact Nat.le_of_ble_eq_true rfl) (by exact Nat.le_of_ble_eq_true rfl),⟨k+1,t0,t2,N1,hk,rfl,rfl,rfl⟩⟩⟩
             | false=>
              obtain rfl:k=4:=by have:=of_decide_eq_false hlt2; omega
              conv=>whnf
              refine hK4 _ _ ?_
              clear hK4 hR4
              conv=>whnf
              refine ⟨8-(i+1),F0,by omega,fun c N1 _ _=>⟨_,_,wk_of (by (repeat' apply And.intro)<;>first | trivial | exact ⟨_,rfl,tv_inc (n:=8) hi (by omega),rfl⟩ | exact ⟨_,rfl,rfl,rfl⟩) (by (repeat' apply And.intro)<;>first | trivial | rfl | exact ⟨_,rfl,drow_blk sf (4*i+4) _ _ _,drow_cl sf (4*i+4) _⟩ | exact ⟨_,rfl,rfl,rfl⟩) (by exact Nat.le_of_ble_eq_true rfl) (by exact Nat.le_of_ble_eq_true rfl),⟨i+1,t0,t2,N1,hi,rfl,rfl,rfl⟩⟩⟩
            ·refine ⟨4,F0,fun c N1 _ _=>⟨_,_,wk_of (by (repeat' apply And.intro)<;>first | trivial | exact ⟨_,rfl,rfl,rfl⟩) (by (repeat' apply And.intro)<;>first | trivial | rfl | exact ⟨_,rfl,drow_blk sf (4*i) _ _ _,drow_cl sf (4*i) _⟩ | exact ⟨_,rfl,rfl,rfl⟩) (by exact Nat.le_of_ble_eq_true rfl) (by exact Nat.le_of_ble_eq_true rfl),⟨0,t0,t2,N1,by omega,rfl,rfl,rfl⟩⟩⟩
           | false=>
            obtain rfl:i=8:=by have:=of_decide_eq_false hlt; omega
            conv=>whnf
            refine hK _ _ ?_
            clear hK hR
            rw [show 4*8=32 from rfl,drow_32]
            conv=>whnf
            intro c N2 _ _
            rfl
          ·refine ⟨8,F0,fun c N1 _ _=>⟨_,_,wk_of (by (repeat' apply And.intro)<;>first | trivial | exact ⟨_,rfl,rfl,rfl⟩) (by (repeat' apply And.intro)<;>first | trivial | rfl | exact ⟨_,rfl,drow_blk0 sf _ _ _,drow_cl sf 0 _⟩ | exact ⟨_,rfl,rfl,rfl⟩) (by exact Nat.le_of_ble_eq_true rfl) (by exact Nat.le_of_ble_eq_true rfl),⟨0,t0,_,N1,by omega,rfl,rfl,rfl⟩⟩⟩
        ·refine ⟨B.length,F0,fun c N1 _ _=>⟨_,_,wk_of (by (repeat' apply And.intro)<;>first | trivial | exact ⟨_,rfl,rfl,rfl⟩) (by (repeat' apply And.intro)<;>first | trivial | rfl | exact ⟨_,rfl,u8_blk B _ _ _ _ _,ints_cl _ _ _⟩ | exact ⟨_,rfl,rfl,rfl⟩) (by exact Nat.le_of_ble_eq_true rfl) (by exact Nat.le_of_ble_eq_true rfl),⟨0,t0,_,_,0,cap,N1,by omega,rfl,hcap,fun _=>rfl,rfl,rfl⟩⟩⟩
     ·refine ⟨8,F0,ren0,ren0_ok _,fun c N1 _ _=>⟨_,_,wkR_of (by (repeat' apply And.intro)<;>first | trivial | exact ⟨_,rfl,rfl,rfl⟩) (by (repeat' apply And.intro)<;>first | trivial | rfl | exact ⟨_,rfl,hblk20 c _ _,ints_cl _ _ _⟩ | exact ⟨_,rfl,rfl,rfl⟩) (by exact Nat.le_of_ble_eq_true rfl),⟨0,_,cap,N1,by omega,rfl,hcap,.inl ⟨rfl,rfl,rfl⟩⟩⟩⟩
   ·conv=>whnf
    cases hq:(((R.length+1+z:Nat):Int).tmod 64 != 56) with
    | true=>
     have hzlt:z<zc R.length:=zc_lt hR64 hz hq
     conv=>whnf
     refine ⟨[.int .u8 0],rfl,rfl,rfl,?_⟩
     conv=>whnf
     refine ⟨by rw [List.length_map,C1_len,Nat.mul_one],hcap,rfl,rfl,⟨by unfold zc at hz; omega,by omega⟩,fun cap' hcap'=>?_⟩
     conv=>whnf
     have hblk:∀ (c:Con) (ρ:Ren),(⟨u8s (C1 R (z+1)),t_uint8,cap'*1,true⟩:Blk)=⟨rnL F0 c ρ (u8s (C1 R z)++[.int .u8 0]),t_uint8,cap'*1,true⟩:=fun c ρ=>by
      rw [show [Sc.int .u8 0]=u8s [0] from rfl,u8s_app,C1_succ,rnL_id (ints_cl _ _ 0)]
     refine ⟨zc R.length-(z+1),F0,tp 4 6,by omega,tp_ok (by exact Nat.le_of_ble_eq_true rfl) (by exact Nat.le_of_ble_eq_true rfl),fun c N1 _ _=>⟨_,_,wkR_of (by (repeat' apply And.intro)<;>first | trivial | exact ⟨_,rfl,rfl,rfl⟩) (by (repeat' apply And.intro)<;>first | trivial | rfl | exact ⟨_,rfl,hblk c _,ints_cl _ _ _⟩ | exact ⟨_,rfl,rfl,rfl⟩) (by exact Nat.le_of_ble_eq_true rfl),⟨z+1,t0,cap',N1,hzlt,rfl,hcap',.inr ⟨by omega,rfl,rfl⟩⟩⟩⟩
    | false=>
     have hzeq:z=zc R.length:=zc_eq hR64 hz hq
     subst hzeq
     conv=>whnf
     refine hK _ _ ?_
     clear hK hR
     refine swp_cut fun K hK hR _=>?_
     refine swp_cut fun K2 hK2 hR2 _=>?_
     conv=>whnf
     refine hK2 _ _ ?_
     clear hK2 hR2
     conv=>whnf
     refine .inr (loop_invR (gH A _) (SmI2_4 a R n) ?_ ?_)
     ·intro k' e' m' hI
      obtain ⟨i,t0,cap,N,hi8,rfl,hcap,⟨hi0,rfl,rfl⟩ | ⟨hi0,rfl,rfl⟩⟩:=hI
      ·conv=>whnf
       cases hlt:decide ((i:Int)<8) with
       | true=>
        have hi:i<8:=by have:=of_decide_eq_true hlt; omega
        have e8:wr .i64 (8*(i:Int))=.int .i64 ((8*i:Nat):Int):=by
         simp only [wr]
         rw [wrapN (n:=8*i) (by omega) (by omega)]
        have e56:wr .i64 (56-((8*i:Nat):Int))=.int .i64 ((56-8*i:Nat):Int):=by
         simp only [wr]
         rw [wrapN (n:=56-8*i) (by omega) (by omega)]
        show swpC _ (Code.seq _ _) _ _ _
        refine swp_cut fun K4 hK4 hR4 _=>?_
        show swpC _ (Code.seq _ _) _ _ _
        refine swp_cut fun K3 hK3 hR3 _=>?_
        conv=>whnf
        refine hK3 _ _ ?_
        clear hK3 hR3
        iterate 4 (refine aops_step fun T S hT hS=>?_; (conv=>whnf); refine hT _ _ ?_)
        refine aops_step fun T S hT hS=>?_
        conv=>whnf
        refine ⟨_,ERead_l hnn,?_⟩
        refine hT _ _ ?_
        iterate 3 (refine aops_step fun T S hT hS=>?_; (conv=>whnf); refine hT _ _ ?_)
        refine aops_step fun T S hT hS=>?_
        conv=>whnf
        rw [e8]
        refine hT _ _ ?_
        refine aops_step fun T S hT hS=>?_
        conv=>whnf
        rw [e56]
        refine hT _ _ ?_
        iterate 3 (refine aops_step fun T S hT hS=>?_; (conv=>whnf); refine hT _ _ ?_)
        refine aops_step fun T S hT hS=>?_
        conv=>whnf
        refine ⟨[.int .u8 (bt n i)],rfl,rfl,rfl,?_⟩
        conv=>whnf
        refine ⟨by rw [List.length_map,C2_len R n hi8,Nat.mul_one],hcap,rfl,rfl,⟨by unfold zc; omega,by omega⟩,fun cap' hcap'=>?_⟩
        conv=>whnf
        refine hT _ _ ?_
        refine aops_step fun T S hT hS=>?_
        conv=>whnf
        refine hT _ _ ?_
        refine aops_end ?_
        refine hK4 _ _ ?_
        clear hK4 hR4
        conv=>whnf
        have hblk:∀ (c:Con) (ρ:Ren),(⟨u8s (C2 R n (i+1)),t_uint8,cap'*1,true⟩:Blk)=⟨rnL F0 c ρ (u8s (C2 R n i)++[.int .u8 (bt n i)]),t_uint8,cap'*1,true⟩:=fun c ρ=>by
         rw [show [Sc.int .u8 (bt n i)]=u8s [bt n i] from rfl,u8s_app,C2_succ R n hi,rnL_id (ints_cl _ _ 0)]
        refine ⟨8-(i+1),F0,tp 5 6,by omega,tp_ok (by exact Nat.le_of_ble_eq_true rfl) (by exact Nat.le_of_ble_eq_true rfl),fun c N1 _ _=>⟨_,_,wkR_of (by (repeat' apply And.intro)<;>first | trivial | exact ⟨_,rfl,tv_inc (n:=8) hi (by omega),rfl⟩ | exact ⟨_,rfl,rfl,rfl⟩) (by (repeat' apply And.intro)<;>first | trivial | rfl | exact ⟨_,rfl,hblk c _,ints_cl _ _ _⟩ | exact ⟨_,rfl,rfl,rfl⟩) (by exact Nat.le_of_ble_eq_true rfl),⟨i+1,t0,cap',N1,hi,rfl,hcap',.inr ⟨by omega,rfl,rfl⟩⟩⟩⟩
       | false=>
        exact absurd (of_decide_eq_false hlt) (by omega)
      ·conv=>whnf
       cases hlt:decide ((i:Int)<8) with
       | true=>
        have hi:i<8:=by have:=of_decide_eq_true hlt; omega
        have e8:wr .i64 (8*(i:Int))=.int .i64 ((8*i:Nat):Int):=by
         simp only [wr]
         rw [wrapN (n:=8*i) (by omega) (by omega)]
        have e56:wr .i64 (56-((8*i:Nat):Int))=.int .i64 ((56-8*i:Nat):Int):=by
         simp only [wr]
         rw [wrapN (n:=56-8*i) (by omega) (by omega)]
        show swpC _ (Code.seq _ _) _ _ _
        refine swp_cut fun K4 hK4 hR4 _=>?_
        show swpC _ (Code.seq _ _) _ _ _
        refine swp_cut fun K3 hK3 hR3 _=>?_
        conv=>whnf
        refine hK3 _ _ ?_
        clear hK3 hR3
        iterate 4 (refine aops_step fun T S hT hS=>?_; (conv=>whnf); refine hT _ _ ?_)
        refine aops_step fun T S hT hS=>?_
        conv=>whnf
        refine ⟨_,ERead_l hnn,?_⟩
        refine hT _ _ ?_
        iterate 3 (refine aops_step fun T S hT hS=>?_; (conv=>whnf); refine hT _ _ ?_)
        refine aops_step fun T S hT hS=>?_
        conv=>whnf
        rw [e8]
        refine hT _ _ ?_
        refine aops_step fun T S hT hS=>?_
        conv=>whnf
        rw [e56]
        refine hT _ _ ?_
        iterate 3 (refine aops_step fun T S hT hS=>?_; (conv=>whnf); refine hT _ _ ?_)
        refine aops_step fun T S hT hS=>?_
        conv=>whnf
        refine ⟨[.int .u8 (bt n i)],rfl,rfl,rfl,?_⟩
        conv=>whnf
        refine ⟨by rw [List.length_map,C2_len R n hi8,Nat.mul_one],hcap,rfl,rfl,⟨by unfold zc; omega,by omega⟩,fun cap' hcap'=>?_⟩
        conv=>whnf
        refine hT _ _ ?_
        refine aops_step fun T S hT hS=>?_
        conv=>whnf
        refine hT _ _ ?_
        refine aops_end ?_
        refine hK4 _ _ ?_
        clear hK4 hR4
        conv=>whnf
        have hblk:∀ (c:Con) (ρ:Ren),(⟨u8s (C2 R n (i+1)),t_uint8,cap'*1,true⟩:Blk)=⟨rnL F0 c ρ (u8s (C2 R n i)++[.int .u8 (bt n i)]),t_uint8,cap'*1,true⟩:=fun c ρ=>by
         rw [show [Sc.int .u8 (bt n i)]=u8s [bt n i] from rfl,u8s_app,C2_succ R n hi,rnL_id (ints_cl _ _ 0)]
        refine ⟨8-(i+1),F0,tp 5 7,by omega,tp_ok (by exact Nat.le_of_ble_eq_true rfl) (by exact Nat.le_of_ble_eq_true rfl),fun c N1 _ _=>⟨_,_,wkR_of (by (repeat' apply And.intro)<;>first | trivial | exact ⟨_,rfl,tv_inc (n:=8) hi (by omega),rfl⟩ | exact ⟨_,rfl,rfl,rfl⟩) (by (repeat' apply And.intro)<;>first | trivial | rfl | exact ⟨_,rfl,hblk c _,ints_cl _ _ _⟩ | exact ⟨_,rfl,rfl,rfl⟩) (by exact Nat.le_of_ble_eq_true rfl),⟨i+1,t0,cap',N1,hi,rfl,hcap',.inr ⟨by omega,rfl,rfl⟩⟩⟩⟩
       | false=>
        obtain rfl:i=8:=by have:=of_decide_eq_false hlt; omega
        conv=>whnf
        refine hK _ _ ?_
        clear hK hR
        have hBl:=last_len R n
        have hB64:(last R n).length%64=0:=by rw [hBl]; unfold zc; omega
        have hBl8:R.length+1+zc R.length+8=(last R n).length:=hBl.symm
        have hBm:(last R n).length≤200:=by rw [hBl]; unfold zc; omega
        rw [C2_8,hBl8]
        rw [hBl8] at hcap
        unfold finS
        clear hBl hBl8
        generalize last R n=B at *
        refine swp_cut fun K hK hR _=>?_
        iterate 3 (refine aops_step fun T S hT hS=>?_; (conv=>whnf); refine hT _ _ ?_)
        refine aops_step fun T S hT hS=>?_
        conv=>whnf
        refine ⟨_,ERead_l hh,?_⟩
        refine hT _ _ ?_
        iterate 2 (refine aops_step fun T S hT hS=>?_; (conv=>whnf); refine hT _ _ ?_)
        refine aops_end ?_
        refine hK _ _ ?_
        clear hK hR
        refine swp_cut fun K hK hR _=>?_
        conv=>whnf
        refine .inr (loop_invC (gH A _) (SmI3_5 s B) ?_ ?_)
        ·intro k' e' m' hI
         obtain ⟨j,t0,t1,g,off,cap,N,hj,rfl,hcap,hoff,rfl,rfl⟩:=hI
         conv=>whnf
         cases hlt:decide (((B.length-64*j:Nat):Int) > 0) with
         | true=>
          have hlt:64*j<B.length:=by have:=of_decide_eq_true hlt; omega
          have hge:64≤B.length-64*j:=by omega
          obtain rfl:=hoff hlt
          have hlen:B.length-64*j-64=B.length-64*(j+1):=by omega
          have d1:decide (B.length-64*j≤cap∧(0:Int)≤64∧(64:Int)≤(cap:Int)∧(0:Int)≤((0:Nat):Int)∧((0:Nat):Int)≤64)=true:=decide_eq_true ⟨hcap,by omega,by omega,by omega,by omega⟩
          have d2:decide (B.length-64*j≤cap∧(0:Int)≤((B.length-64*j:Nat):Int)∧((B.length-64*j:Nat):Int)≤(cap:Int)∧(0:Int)≤64∧(64:Int)≤((B.length-64*j:Nat):Int))=true:=decide_eq_true ⟨hcap,by omega,by omega,by omega,by omega⟩
          have hb0:Nat.beq (((0:Nat):Int).toNat) cap=false:=by
           cases hh:Nat.beq (((0:Nat):Int).toNat) cap with
           | false=>rfl
           | true=>
            have:0=cap:=nbeq.1 hh
            omega
          have hP:((B.drop (64*j)).take 64).length=64:=by rw [List.length_take,List.length_drop]; omega
          have hdr:(u8s B).drop (64*j)=(ones (u8s ((B.drop (64*j)).take 64))).flatten++u8s (B.drop (64*j+64)):=by
           rw [ones_flat,u8s_app,← List.map_drop,show B.drop (64*j+64)=(B.drop (64*j)).drop 64 by rw [List.drop_drop],List.take_append_drop]
          show swpC _ (Code.seq _ _) _ _ _
          refine swp_cut fun K4 hK4 hR4 _=>?_
          iterate 2 (refine aops_step fun T S hT hS=>?_; (conv=>whnf); refine hT _ _ ?_)
          refine aops_step fun T S hT hS=>?_
          conv=>whnf
          rw [d1]
          conv=>whnf
          rw [hb0]
          conv=>whnf
          show T (.one (.slice (some (.loc 5 (64*j))) 64 cap)) _
          refine hT _ _ ?_
          refine aops_step fun T S hT hS=>?_
          conv=>whnf
          refine ⟨fun v _=>v=.agg (runP B s (j+1)).cells,fun c B' hB hL=>mixed_hc (A:=B') (s:=runP B s j) (P:=(B.drop (64*j)).take 64) hP (ERead_le (fun r o h=>hB r o (.inl h)) hTb) (q:=some (.ext ⟨c.ι 5,64*j,none⟩)) (cap:=cap) (sl_lent (b:=5) (o:=64*j) (L:=ones (u8s ((B.drop (64*j)).take 64))) (post:=u8s (B.drop (64*j+64))) hL rfl (ints_cl _ _ 0) hdr (by rw [u8s_len]; exact hP.symm) (by rw [u8s_len,hP]; omega) (by rw [u8s_len,hP]; omega) (ones_es _)),⟨_,B0,rfl,rfl⟩,?_⟩
          rintro v N' _ rfl N1 _
          refine hT _ _ ?_
          refine aops_step fun T S hT hS=>?_
          conv=>whnf
          refine hT _ _ ?_
          refine aops_end ?_
          refine hK4 _ _ ?_
          clear hK4 hR4
          refine aops_step fun T S hT hS=>?_
          conv=>whnf
          refine hT _ _ ?_
          refine aops_step fun T S hT hS=>?_
          conv=>whnf
          rw [d2]
          conv=>whnf
          cases h64:Nat.beq (Int.toNat 64) cap with
          | true=>
           have h64:64=cap:=nbeq.1 h64
           conv=>whnf
           show T (.one (.slice (some (.loc 5 (64*j))) (B.length-64*j-64) (cap-64))) _
           rw [hlen]
           refine hT _ _ ?_
           refine aops_step fun T S hT hS=>?_
           conv=>whnf
           refine hT _ _ ?_
           refine aops_end ?_
           conv=>whnf
           refine ⟨B.length-64*(j+1),F0,by omega,fun c N1 _ _=>⟨_,_,wk_of (by (repeat' apply And.intro)<;>first | trivial | exact ⟨_,rfl,rfl,rfl⟩) (by (repeat' apply And.intro)<;>first | trivial | rfl | exact ⟨_,rfl,u8_blk B _ _ _ _ _,ints_cl _ _ _⟩ | exact ⟨_,rfl,rfl,rfl⟩) (by exact Nat.le_of_ble_eq_true rfl) (by exact Nat.le_of_ble_eq_true rfl),⟨j+1,t0,t1,g,(64*j),cap-64,N1,by omega,rfl,by omega,fun h=>by omega,rfl,rfl⟩⟩⟩
          | false=>
           conv=>whnf
           show T (.one (.slice (some (.loc 5 (64*j+64))) (B.length-64*j-64) (cap-64))) _
           rw [hlen]
           refine hT _ _ ?_
           refine aops_step fun T S hT hS=>?_
           conv=>whnf
           refine hT _ _ ?_
           refine aops_end ?_
           conv=>whnf
           refine ⟨B.length-64*(j+1),F0,by omega,fun c N1 _ _=>⟨_,_,wk_of (by (repeat' apply And.intro)<;>first | trivial | exact ⟨_,rfl,rfl,rfl⟩) (by (repeat' apply And.intro)<;>first | trivial | rfl | exact ⟨_,rfl,u8_blk B _ _ _ _ _,ints_cl _ _ _⟩ | exact ⟨_,rfl,rfl,rfl⟩) (by exact Nat.le_of_ble_eq_true rfl) (by exact Nat.le_of_ble_eq_true rfl),⟨j+1,t0,t1,g,(64*j+64),cap-64,N1,by omega,rfl,by omega,fun h=>by omega,rfl,rfl⟩⟩⟩
         | false=>
          have hj64:j=B.length/64:=by have:=of_decide_eq_false hlt; omega
          conv=>whnf
          refine hK _ _ ?_
          clear hK hR
          rw [← hj64]
          generalize runP B s j=sf at *
          refine swp_cut fun K hK hR _=>?_
          conv=>whnf
          refine hK _ _ ?_
          clear hK hR
          refine swp_cut fun K hK hR _=>?_
          refine swp_cut fun K2 hK2 hR2 _=>?_
          conv=>whnf
          refine hK2 _ _ ?_
          clear hK2 hR2
          conv=>whnf
          refine .inr (loop_invC (gH A _) (SmI4_5 sf) ?_ ?_)
          ·intro k' e' m' hI
           obtain ⟨i,t0,t2,N,hi8,rfl,rfl,rfl⟩:=hI
           conv=>whnf
           cases hlt:decide ((i:Int)<8) with
           | true=>
            have hi:i<8:=by have:=of_decide_eq_true hlt; omega
            show swpC _ (Code.seq _ _) _ _ _
            refine swp_cut fun K4 hK4 hR4 _=>?_
            show swpC _ (Code.seq _ _) _ _ _
            refine swp_cut fun K3 hK3 hR3 _=>?_
            refine aops_step fun T S hT hS=>?_
            conv=>whnf
            refine hT _ _ ?_
            refine aops_step fun T S hT hS=>?_
            conv=>whnf
            rw [dec_idx (n:=8) hi]
            conv=>whnf
            conv in (takeAt _ _ _)=>change takeAt sf.cells (i*1) 1; rw [get_take sf hi]
            conv=>whnf
            refine hT _ _ ?_
            iterate 2 (refine aops_step fun T S hT hS=>?_; (conv=>whnf); refine hT _ _ ?_)
            refine aops_end ?_
            refine hK3 _ _ ?_
            clear hK3 hR3
            refine swp_cut fun K3 hK3 hR3 _=>?_
            conv=>whnf
            refine hK3 _ _ ?_
            clear hK3 hR3
            conv=>whnf
            refine .inr (loop_invC (gH A _) (SmI5_5 sf i) ?_ ?_)
            ·intro k' e' m' hI
             obtain ⟨k,t0,t2,N,hk4,rfl,rfl,rfl⟩:=hI
             conv=>whnf
             cases hlt2:decide ((k:Int)<4) with
             | true=>
              have hk:k<4:=by have:=of_decide_eq_true hlt2; omega
              have e4:wr .i64 (4*(i:Int))=.int .i64 ((4*i:Nat):Int):=by
               simp only [wr]
               rw [wrapN (n:=4*i) (by omega) (by omega)]
              have e41:wr .i64 (((4*i:Nat):Int)+(k:Int))=.int .i64 ((4*i+k:Nat):Int):=by
               simp only [wr]
               rw [wrapN (n:=4*i+k) (by omega) (by omega)]
              have e8:wr .i64 (8*(k:Int))=.int .i64 ((8*k:Nat):Int):=by
               simp only [wr]
               rw [wrapN (n:=8*k) (by omega) (by omega)]
              have e24:wr .i64 (24-((8*k:Nat):Int))=.int .i64 ((24-8*k:Nat):Int):=by
               simp only [wr]
               rw [wrapN (n:=24-8*k) (by omega) (by omega)]
              have h32:4*i+k<32:=by omega
              show swpC _ (Code.seq _ _) _ _ _
              refine swp_cut fun K5 hK5 hR5 _=>?_
              show swpC _ (Code.seq _ _) _ _ _
              refine swp_cut fun K3 hK3 hR3 _=>?_
              conv=>whnf
              refine hK3 _ _ ?_
              clear hK3 hR3
              refine aops_step fun T S hT hS=>?_
              conv=>whnf
              refine hT _ _ ?_
              refine aops_step fun T S hT hS=>?_
              conv=>whnf
              rw [e4]
              refine hT _ _ ?_
              refine aops_step fun T S hT hS=>?_
              conv=>whnf
              refine hT _ _ ?_
              refine aops_step fun T S hT hS=>?_
              conv=>whnf
              rw [e41]
              refine hT _ _ ?_
              iterate 2 (refine aops_step fun T S hT hS=>?_; (conv=>whnf); refine hT _ _ ?_)
              refine aops_step fun T S hT hS=>?_
              conv=>whnf
              rw [e8]
              refine hT _ _ ?_
              refine aops_step fun T S hT hS=>?_
              conv=>whnf
              rw [e24]
              refine hT _ _ ?_
              iterate 2 (refine aops_step fun T S hT hS=>?_; (conv=>whnf); refine hT _ _ ?_)
              refine aops_step fun T S hT hS=>?_
              conv=>whnf
              rw [dec_idx (n:=32) h32]
              conv=>whnf
              refine hT _ _ ?_
              refine aops_step fun T S hT hS=>?_
              conv=>whnf
              conv in (putAt _ _ _)=>change putAt (drow sf (4*i+k)) (0+(4*i+k)*1) [(.int .u8 ((sf.get i).fdiv (2^(min (24-8*k) 32))%256))]; rw [drow_put sf hi hk]
              conv=>whnf
              refine hT _ _ ?_
              refine aops_end ?_
              refine hK5 _ _ ?_
              clear hK5 hR5
              conv=>whnf
              refine ⟨4-(k+1),F0,by omega,fun c N1 _ _=>⟨_,_,wk_of (by (repeat' apply And.intro)<;>first | trivial | exact ⟨_,rfl,tv_inc (n:=4) hk (by omega),rfl⟩ | exact ⟨_,rfl,rfl,rfl⟩) (by (repeat' apply And.intro)<;>first | trivial | rfl | exact ⟨_,rfl,drow_blk sf (4*i+k+1) _ _ _,drow_cl sf (4*i+k+1) _⟩ | exact ⟨_,rfl,rfl,rfl⟩) (by exact Nat.le_of_ble_eq_true rfl) (by exact Nat.le_of_ble_eq_true rfl),⟨k+1,t0,t2,N1,hk,rfl,rfl,rfl⟩⟩⟩
             | false=>
              obtain rfl:k=4:=by have:=of_decide_eq_false hlt2; omega
              conv=>whnf
              refine hK4 _ _ ?_
              clear hK4 hR4
              conv=>whnf
              refine ⟨8-(i+1),F0,by omega,fun c N1 _ _=>⟨_,_,wk_of (by (repeat' apply And.intro)<;>first | trivial | exact ⟨_,rfl,tv_inc (n:=8) hi (by omega),rfl⟩ | exact ⟨_,rfl,rfl,rfl⟩) (by (repeat' apply And.intro)<;>first | trivial | rfl | exact ⟨_,rfl,drow_blk sf (4*i+4) _ _ _,drow_cl sf (4*i+4) _⟩ | exact ⟨_,rfl,rfl,rfl⟩) (by exact Nat.le_of_ble_eq_true rfl) (by exact Nat.le_of_ble_eq_true rfl),⟨i+1,t0,t2,N1,hi,rfl,rfl,rfl⟩⟩⟩
            ·refine ⟨4,F0,fun c N1 _ _=>⟨_,_,wk_of (by (repeat' apply And.intro)<;>first | trivial | exact ⟨_,rfl,rfl,rfl⟩) (by (repeat' apply And.intro)<;>first | trivial | rfl | exact ⟨_,rfl,drow_blk sf (4*i) _ _ _,drow_cl sf (4*i) _⟩ | exact ⟨_,rfl,rfl,rfl⟩) (by exact Nat.le_of_ble_eq_true rfl) (by exact Nat.le_of_ble_eq_true rfl),⟨0,t0,t2,N1,by omega,rfl,rfl,rfl⟩⟩⟩
           | false=>
            obtain rfl:i=8:=by have:=of_decide_eq_false hlt; omega
            conv=>whnf
            refine hK _ _ ?_
            clear hK hR
            rw [show 4*8=32 from rfl,drow_32]
            conv=>whnf
            intro c N2 _ _
            rfl
          ·refine ⟨8,F0,fun c N1 _ _=>⟨_,_,wk_of (by (repeat' apply And.intro)<;>first | trivial | exact ⟨_,rfl,rfl,rfl⟩) (by (repeat' apply And.intro)<;>first | trivial | rfl | exact ⟨_,rfl,drow_blk0 sf _ _ _,drow_cl sf 0 _⟩ | exact ⟨_,rfl,rfl,rfl⟩) (by exact Nat.le_of_ble_eq_true rfl) (by exact Nat.le_of_ble_eq_true rfl),⟨0,t0,_,N1,by omega,rfl,rfl,rfl⟩⟩⟩
        ·refine ⟨B.length,F0,fun c N1 _ _=>⟨_,_,wk_of (by (repeat' apply And.intro)<;>first | trivial | exact ⟨_,rfl,rfl,rfl⟩) (by (repeat' apply And.intro)<;>first | trivial | rfl | exact ⟨_,rfl,u8_blk B _ _ _ _ _,ints_cl _ _ _⟩ | exact ⟨_,rfl,rfl,rfl⟩) (by exact Nat.le_of_ble_eq_true rfl) (by exact Nat.le_of_ble_eq_true rfl),⟨0,t0,_,_,0,cap,N1,by omega,rfl,hcap,fun _=>rfl,rfl,rfl⟩⟩⟩
     ·refine ⟨8,F0,ren0,ren0_ok _,fun c N1 _ _=>⟨_,_,wkR_of (by (repeat' apply And.intro)<;>first | trivial | exact ⟨_,rfl,rfl,rfl⟩) (by (repeat' apply And.intro)<;>first | trivial | rfl | exact ⟨_,rfl,hblk20 c _ _,ints_cl _ _ _⟩ | exact ⟨_,rfl,rfl,rfl⟩) (by exact Nat.le_of_ble_eq_true rfl),⟨0,_,cap,N1,by omega,rfl,hcap,.inl ⟨rfl,rfl,rfl⟩⟩⟩⟩
  ·refine ⟨zc R.length,F0,ren0,ren0_ok _,fun c N1 _ _=>⟨_,_,wkR_of (by (repeat' apply And.intro)<;>first | trivial | exact ⟨_,rfl,rfl,rfl⟩) (by (repeat' apply And.intro)<;>first | trivial | rfl | exact ⟨_,rfl,hblk10 c _ _,ints_cl _ _ _⟩ | exact ⟨_,rfl,rfl,rfl⟩) (by exact Nat.le_of_ble_eq_true rfl),⟨0,_,cap2,N1,Nat.zero_le _,rfl,hcap2,.inl ⟨rfl,rfl,rfl⟩⟩⟩⟩

end Go.Hv

import Derived.Test.YthmdbgdagnhheaaGreatDoorSr3
namespace Go.Hv
open Go.Ev Go.Ec

theorem eqRow:∀ {Z D:List Int},D.length=Z.length→eqCells (u8s Z) (u8s D) (u8s D)=some true
 | [],[],_=>rfl
 | _::Z,d::D,h1=>by
  have ih:=eqRow (Z:=Z) (D:=D) (by simpa using h1)
  show (match eqCells (u8s Z) (u8s D) (u8s D) with | some r=>some ((d==d)&&r) | none=>none)=some true
  rw [ih]
  simp

theorem pval_row {T:Tys} {t t2:TypeId} {x y:Operand} {e:Env} {Z D:List Int} {ag:Bool} {sz:Nat} {k:TK} (hx:opv e x=some (.agg (u8s D))) (hy:opv e y=some (.agg (u8s D))) (hl:lk T t=some ⟨ag,sz,u8s Z,true,k⟩)
  (h:D.length=Z.length):pvalH T (.binOp .eql t x y t2) e=some (.one (.bool true)):=by
 have h1:pval T (.binOp .eql t x y t2) e=some (.one (.bool true)):=by
  simp only [pval,hx,hy,bop,hl,eqRow h]
 unfold pvalH
 rw [h1]

theorem bytesS_u8:∀ X:List Int,bytesS X=u8s X
 | []=>rfl
 | x::X=>by
  show byteS x::bytesS X=_
  rw [bytesS_u8 X]
  rfl

theorem sgV_len {s:Int} {X S:List Int} (h:sgV s X=some S):S.length=64:=by
 unfold sgV at h
 split at h
 ·cases h
 ·unfold sg2 at h
  split at h
  ·cases h
  ·obtain rfl:=Option.some.inj h
   unfold sg3
   rw [List.length_append,byt_len,byt_len]

theorem sgT_all (s:Int) (X:List Int):∃ L b,L.length=64∧sgT (sgV s X)=.tup [.agg (u8s L),.one (.bool b)]:=by
 cases h:sgV s X with
 | none=>exact ⟨z64,false,rfl,rfl⟩
 | some S=>exact ⟨S,true,sgV_len h,rfl⟩
theorem keyT_all (s:Int):∃ L b,L.length=32∧keyT (prV s)=.tup [.agg (u8s L),.one (.bool b)]:=by
 match prV s with
 | none=>exact ⟨zD32,false,rfl,rfl⟩
 | some (d,a,c)=>exact ⟨byt (vK a),true,byt_len _,rfl⟩

theorem tup_cl (L:List Int) (b:Bool):(TV.tup [.agg (u8s L),.one (.bool b)]).closed 0=true:=by
 have h0:closedL 0 (u8s L)=true:=ints_cl _ _ 0
 show (match closedL 0 (u8s L) with | true=>closedT 0 [TC.one (.bool b)] | false=>false)=true
 rw [h0]
 rfl

set_option maxHeartbeats 1000000 in
set_option maxRecDepth 100000 in
theorem lawSigSigns_hc {A:Base} {s:Int} {X:List Int} {p:Option SP} {cap:Nat} (hTb:Tab A) (hT0:Tab0 A) (hs:InW s) (hX8:∀ z∈X,0≤z∧z<256) (hXl:X.length≤140737488351232) (hX:Sl A 1 (.one (.slice p X.length cap)) (ones (u8s X))) :
  HC PG A f_law06_SigSigns [W s,.one (.slice p X.length cap)] fun v _=>v=.one (.bool true):=by
 have cS:=fun (B:Base) (hB:Base.le A B) {q:Option SP} {cap:Nat} (hq:Sl B 1 (.one (.slice q X.length cap)) (ones (u8s X)))=>sign_hc (A:=B) (ERead_le hB hTb) hs hq
 have cR:=fun (B:Base) (hB:Base.le A B)=>r6Sign_hc (A:=B) (ERead_le hB hT0) hs hX8 hXl (hX.mono hB)
 have cP:=public_fn hs
 have cQ:=r6Public_fn hs
 obtain ⟨L,b,hL,eL⟩:=sgT_all s X
 obtain ⟨D,kb,hD,eD⟩:=keyT_all s
 rw [eL] at cS cR
 rw [eD] at cP cQ
 clear eL eD
 refine hc_start (fun _=>none) h_law06_SigSigns rfl (by kernel_rfl) (by kernel_rfl) (closedTs_iff.2 fun v hv=>by
  simp only [List.mem_cons,List.not_mem_nil,or_false] at hv
  rcases hv with rfl | rfl
  ·rfl
  ·exact hX.stable.1 0) ?_
 have tk:takeAt (u8s D) 0 32=some (u8s D):=by
  have:=takeAt_app [] (u8s D) []
  rw [List.append_nil,List.length_map,hD] at this
  exact this
 have tkl:Nat.beq 32 (u8s D).length=true:=by rw [List.length_map,hD]; rfl
 have tkp:putAt (u8s zD32) 0 (u8s D)=some (u8s D):=by
  have:=putAt_app [] (u8s zD32) [] (u8s D) (by rw [List.length_map,List.length_map,hD]; rfl)
  simpa using this
 have ts:takeAt (u8s L) 0 64=some (u8s L):=by
  have:=takeAt_app [] (u8s L) []
  rw [List.append_nil,List.length_map,hL] at this
  exact this
 have tsl:Nat.beq 64 (u8s L).length=true:=by rw [List.length_map,hL]; rfl
 have tsp:putAt (u8s z64) 0 (u8s L)=some (u8s L):=by
  have:=putAt_app [] (u8s z64) [] (u8s L) (by rw [List.length_map,List.length_map,hL]; rfl)
  simpa using this
 have tx:takeAt (u8s X) 0 X.length=some (u8s X):=by
  have:=takeAt_app [] (u8s X) []
  rw [List.append_nil,List.length_map] at this
  exact this
 have hXh:∀ m,SliceHas A m (.one (.slice p X.length cap)) X.length (u8s X):=fun m=>by
  have:=Sl.has (m:=m) hX (by rw [List.length_map])
  rwa [Nat.mul_one] at this
 have hbb:(b==b)=true:=by cases b<;>rfl
 have hkk:(kb==kb)=true:=by cases kb<;>rfl
 have hss:((strOf X).toList==(strOf X).toList)=true:=by simp
 refine swp_cut fun K hK hR _=>?_
 conv=>whnf
 refine hK _ _ ?_
 clear hK hR
 refine swp_cut fun K hK hR _=>?_
 iterate 2 (refine aops_step fun T S hT hS=>?_; (conv=>whnf); refine hT _ _ ?_)
 refine aops_step fun T S hT hS=>?_
 conv=>whnf
 refine ⟨u8s X,Sl.has hX (by rw [List.length_map]),(by rw [List.length_map]; omega),rfl,?_⟩
 conv=>whnf
 refine ⟨rfl,Nat.le_refl _,rfl,rfl,⟨by omega,by omega⟩,fun cap' hcap'=>?_⟩
 rw [Nat.zero_add] at hcap'
 conv=>whnf
 rw [Nat.zero_add X.length]
 refine hT (.one (.slice (some (.loc 2 0)) X.length cap')) ⟨[some ⟨words s,_,0,false⟩,none,some ⟨u8s X,t_uint8,cap'*1,true⟩],B0⟩ ?_
 refine aops_step fun T S hT hS=>?_
 conv=>whnf
 refine hT _ _ ?_
 refine aops_end ?_
 refine hK _ _ ?_
 clear hK hR
 refine swp_cut fun K hK hR _=>?_
 iterate 2 (refine aops_step fun T S hT hS=>?_; (conv=>whnf); refine hT _ _ ?_)
 refine aops_step fun T S hT hS=>?_
 conv=>whnf
 refine ⟨fun v _=>v=.tup [.agg (u8s L),.one (.bool b)],fun c B hB hL=>by
  show HC PG B f_sig_Sign [W s,.one (.slice (some (.ext ⟨c.ι 2,0,none⟩)) X.length cap')] _
  exact cS B (fun r o h=>hB r o (.inl h)) (sl_lent (b:=2) (o:=0) (L:=ones (u8s X)) (post:=[]) hL rfl (ints_cl _ _ 0) (by rw [ones_flat]; exact (List.append_nil _).symm) (by rw [u8s_len]) (by rw [u8s_len]; exact hcap') (by rw [u8s_len]; omega) (ones_es _)),⟨_,B0,tup_cl L b,rfl⟩,?_⟩
 rintro v N' _ rfl N1 _
 refine hT _ _ ?_
 iterate 4 (refine aops_step fun T S hT hS=>?_; (conv=>whnf); refine hT _ _ ?_)
 refine aops_step fun T S hT hS=>?_
 conv=>whnf
 conv in (Nat.beq _ _)=>change Nat.beq 64 (u8s L).length; rw [tsl]
 conv=>whnf
 conv in (putAt _ _ _)=>change putAt (u8s z64) 0 (u8s L); rw [tsp]
 conv=>whnf
 refine hT _ _ ?_
 refine aops_step fun T S hT hS=>?_
 conv=>whnf
 refine hT _ _ ?_
 refine aops_end ?_
 refine hK _ _ ?_
 clear hK hR
 refine swp_cut fun K hK hR _=>?_
 iterate 2 (refine aops_step fun T S hT hS=>?_; (conv=>whnf); refine hT _ _ ?_)
 refine aops_step fun T S hT hS=>?_
 conv=>whnf
 refine ⟨fun v _=>v=.tup [.agg (u8s L),.one (.bool b)],fun c B hB hL=>by
  show HC PG B f_ref06_Sign [W s,TV.ext c (.one (.slice p X.length cap))] _
  rw [hX.stable.2.2 c]
  exact cR B (fun r o h=>hB r o (.inl h)),⟨_,B0,tup_cl L b,rfl⟩,?_⟩
 rintro v N' _ rfl N1 _
 refine hT _ _ ?_
 iterate 4 (refine aops_step fun T S hT hS=>?_; (conv=>whnf); refine hT _ _ ?_)
 refine aops_step fun T S hT hS=>?_
 conv=>whnf
 conv in (Nat.beq _ _)=>change Nat.beq 64 (u8s L).length; rw [tsl]
 conv=>whnf
 conv in (putAt _ _ _)=>change putAt (u8s z64) 0 (u8s L); rw [tsp]
 conv=>whnf
 refine hT _ _ ?_
 refine aops_step fun T S hT hS=>?_
 conv=>whnf
 refine hT _ _ ?_
 refine aops_end ?_
 refine hK _ _ ?_
 clear hK hR
 refine swp_cut fun K hK hR _=>?_
 refine aops_step fun T S hT hS=>?_
 conv=>whnf
 refine hT _ _ ?_
 refine aops_step fun T S hT hS=>?_
 conv=>whnf
 refine ⟨_,cP,rfl,?_⟩
 refine hT _ _ ?_
 iterate 4 (refine aops_step fun T S hT hS=>?_; (conv=>whnf); refine hT _ _ ?_)
 refine aops_step fun T S hT hS=>?_
 conv=>whnf
 conv in (Nat.beq _ _)=>change Nat.beq 32 (u8s D).length; rw [tkl]
 conv=>whnf
 conv in (putAt _ _ _)=>change putAt (u8s zD32) 0 (u8s D); rw [tkp]
 conv=>whnf
 refine hT _ _ ?_
 refine aops_step fun T S hT hS=>?_
 conv=>whnf
 refine hT _ _ ?_
 refine aops_end ?_
 refine hK _ _ ?_
 clear hK hR
 refine swp_cut fun K hK hR _=>?_
 refine aops_step fun T S hT hS=>?_
 conv=>whnf
 refine hT _ _ ?_
 refine aops_step fun T S hT hS=>?_
 conv=>whnf
 refine ⟨_,cQ,rfl,?_⟩
 refine hT _ _ ?_
 iterate 4 (refine aops_step fun T S hT hS=>?_; (conv=>whnf); refine hT _ _ ?_)
 refine aops_step fun T S hT hS=>?_
 conv=>whnf
 conv in (Nat.beq _ _)=>change Nat.beq 32 (u8s D).length; rw [tkl]
 conv=>whnf
 conv in (putAt _ _ _)=>change putAt (u8s zD32) 0 (u8s D); rw [tkp]
 conv=>whnf
 refine hT _ _ ?_
 refine aops_step fun T S hT hS=>?_
 conv=>whnf
 refine hT _ _ ?_
 refine aops_end ?_
 refine hK _ _ ?_
 clear hK hR
 refine swp_cut fun K hK hR _=>?_
 refine aops_step fun T S hT hS=>?_
 conv=>whnf
 refine ⟨fun v _=>v=.one (.bool true),fun c B hB hL=>alive6_hc (ERead_le (fun r o h=>hB r o (.inl h)) hTb),⟨_,B0,rfl,rfl⟩,?_⟩
 rintro v N' _ rfl N1 _
 refine hT _ _ ?_
 refine aops_step fun T S hT hS=>?_
 conv=>whnf
 refine hT _ _ ?_
 refine aops_step fun T S hT hS=>?_
 conv=>whnf
 conv in (takeAt _ _ _)=>change takeAt (u8s L) 0 64; rw [ts]
 conv=>whnf
 refine hT _ _ ?_
 refine aops_step fun T S hT hS=>?_
 conv=>whnf
 conv in (takeAt _ _ _)=>change takeAt (u8s L) 0 64; rw [ts]
 conv=>whnf
 refine hT _ _ ?_
 refine aops_step fun T S hT hS=>?_
 conv=>whnf
 rw [pval_row (Z:=z64) (D:=L) rfl rfl rfl hL]
 conv=>whnf
 refine hT _ _ ?_
 iterate 4 (refine aops_step fun T S hT hS=>?_; (conv=>whnf); refine hT _ _ ?_)
 refine aops_step fun T S hT hS=>?_
 conv=>whnf
 rw [hbb]
 refine hT _ _ ?_
 iterate 2 (refine aops_step fun T S hT hS=>?_; (conv=>whnf); refine hT _ _ ?_)
 refine aops_step fun T S hT hS=>?_
 conv=>whnf
 conv in (takeAt _ _ _)=>change takeAt (u8s D) 0 32; rw [tk]
 conv=>whnf
 refine hT _ _ ?_
 refine aops_step fun T S hT hS=>?_
 conv=>whnf
 conv in (takeAt _ _ _)=>change takeAt (u8s D) 0 32; rw [tk]
 conv=>whnf
 refine hT _ _ ?_
 refine aops_step fun T S hT hS=>?_
 conv=>whnf
 rw [pval_row (Z:=zD32) (D:=D) rfl rfl rfl hD]
 conv=>whnf
 refine hT _ _ ?_
 iterate 4 (refine aops_step fun T S hT hS=>?_; (conv=>whnf); refine hT _ _ ?_)
 refine aops_step fun T S hT hS=>?_
 conv=>whnf
 rw [hkk]
 refine hT _ _ ?_
 iterate 3 (refine aops_step fun T S hT hS=>?_; (conv=>whnf); refine hT _ _ ?_)
 refine aops_step fun T S hT hS=>?_
 conv=>whnf
 refine ⟨X,rfl,(by rw [bytesS_u8]; exact tx),hX8,?_⟩
 conv=>whnf
 refine hT _ _ ?_
 refine aops_step fun T S hT hS=>?_
 conv=>whnf
 refine hT _ _ ?_
 refine aops_step fun T S hT hS=>?_
 conv=>whnf
 refine ⟨X,rfl,(by
  rw [bytesS_u8]
  exact hXh _),hX8,?_⟩
 conv=>whnf
 refine hT _ _ ?_
 refine aops_step fun T S hT hS=>?_
 conv=>whnf
 rw [hss]
 refine hT _ _ ?_
 iterate 2 (refine aops_step fun T S hT hS=>?_; (conv=>whnf); refine hT _ _ ?_)
 refine aops_end ?_
 refine hK _ _ ?_
 conv=>whnf
 intro c N2 _ _
 rfl

end Go.Hv

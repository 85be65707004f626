import Derived.Test.YthmdbgdagnhheaaGreatDoorSh3
namespace Go.Hv
open Go.Ev

def WrKL (X:List Int) (s:S8) (n':Nat) (v:TV) (m':HM):Prop:=
 v=.tup []∧((X.length%64=0∧∃ t N,m'=⟨[some ⟨hcells (runP X s (X.length/64)) (.slice none 0 0) n',t,0,false⟩,none,none],N⟩) ∨
  (X.length%64≠0∧∃ t cap N,X.length%64≤cap∧m'=⟨[some ⟨hcells (runP X s (X.length/64)) (.slice (some (.loc 3 0)) (X.length%64) cap) n',t,0,false⟩,none,none,some ⟨u8s (X.drop (64*(X.length/64))),t_uint8,cap*1,true⟩],N⟩))

def WrK2 (R X:List Int) (s:S8) (n':Nat) (v:TV) (m':HM):Prop:=
 (R.length+X.length<64∧v=.tup []∧∃ t cap N,R.length+X.length≤cap∧m'=⟨[some ⟨hcells s (.slice (some (.loc 2 0)) (R.length+X.length) cap) n',t,0,false⟩,none,some ⟨u8s (R++X),t_uint8,cap*1,true⟩],N⟩) ∨
 (64≤R.length+X.length∧WrKL (X.drop (64-R.length)) (runP (R++X) s 1) n' v m')

set_option maxHeartbeats 2000000 in
set_option maxRecDepth 100000 in
theorem write_rest {A:Base} {s:S8} {n t cap0 cap:Nat} {p:Option SP} {R X:List Int} (hTb:Tab A) (hs:Sl A 1 (.one (.slice p X.length cap)) (ones (u8s X))) (hn:n+X.length<9223372036854775808) (hX:X.length≤140737488360000)
  (hR0:0<R.length) (hR64:R.length<64) (hRc:R.length≤cap0) :
  CALL PG A f_sha_Hash_Write [.one (.ptr (some (.loc 0 0))),.one (.slice p X.length cap)] ⟨[some ⟨hcells s (.slice (some (.loc 1 0)) R.length cap0) n,t,0,false⟩,some ⟨u8s R,t_uint8,cap0*1,true⟩],B0⟩ (WrK2 R X s (n+X.length)):=by
 refine call_start (fun _=>none) h_sha_Hash_Write rfl (by kernel_rfl) (write_ok A) ?_
 have hw:wr .i64 ((n:Int)+(X.length:Int))=.int .i64 ((n+X.length:Nat):Int):=by
  simp only [wr]
  rw [wrapN (n:=n+X.length) (by omega) hn]
 have hw64:wr .i64 (64-(R.length:Int))=.int .i64 ((64-R.length:Nat):Int):=by
  simp only [wr]
  rw [wrapN (n:=64-R.length) (by omega) (by omega)]
 have hgt:decide ((R.length:Int) > 0)=true:=decide_eq_true (by omega)
 obtain ⟨kk,hkk⟩:∃ kk,kk=min X.length (64-R.length):=⟨_,rfl⟩
 have hmin:(if ((64-R.length:Nat):Int)<(X.length:Int) then ((64-R.length:Nat):Int) else (X.length:Int))=(kk:Int):=by
  split<;>omega
 have hkx:kk≤X.length:=by omega
 have hXl:X.length-kk=(X.drop kk).length:=List.length_drop.symm
 have hl:(X.take kk).length=kk:=by rw [List.length_take]; omega
 have hu8':u8s R++u8s (X.take kk)=u8s (R++X.take kk):=(List.map_append).symm
 have hu8:u8s R++u8s (X.take X.length)=u8s (R++X):=by rw [List.take_length]; exact (List.map_append).symm
 refine swp_cut fun K hK hR _=>?_
 iterate 6 (refine aops_step fun T S hT hS=>?_; (conv=>whnf); refine hT _ _ ?_)
 refine aops_step fun T S hT hS=>?_
 conv=>whnf
 rw [hw]
 refine hT _ _ ?_
 iterate 3 (refine aops_step fun T S hT hS=>?_; (conv=>whnf); refine hT _ _ ?_)
 refine aops_end ?_
 refine hK _ _ ?_
 clear hK hR
 refine swp_cut fun K hK hR _=>?_
 conv=>whnf
 rw [hgt]
 show swpC _ (Code.seq _ _) _ _ _
 refine swp_cut fun K2 hK2 hR2 _=>?_
 iterate 7 (refine aops_step fun T S hT hS=>?_; (conv=>whnf); refine hT _ _ ?_)
 refine aops_step fun T S hT hS=>?_
 conv=>whnf
 rw [hw64]
 refine hT _ _ ?_
 refine aops_step fun T S hT hS=>?_
 conv=>whnf
 rw [hmin]
 refine hT _ _ ?_
 refine aops_step fun T S hT hS=>?_
 conv=>whnf
 refine hT _ _ ?_
 refine aops_end ?_
 refine hK2 _ _ ?_
 clear hK2 hR2
 refine swp_cut fun K2 hK2 hR2 _=>?_
 iterate 7 (refine aops_step fun T S hT hS=>?_; (conv=>whnf); refine hT _ _ ?_)
 match p,hs with
 | some (.loc _ _),hs=>
  obtain ⟨p',cap',e,h2,h3,h4⟩:=id hs
  simp only [TV.one.injEq,Sc.slice.injEq] at e
  obtain ⟨rfl,_,rfl⟩:=e
  exact h4.elim
 | none,hs=>
  obtain ⟨hX0,hc0⟩:X=[]∧cap=0:=by
   obtain ⟨p',cap',e,h2,h3,h4⟩:=id hs
   simp only [TV.one.injEq,Sc.slice.injEq] at e
   obtain ⟨rfl,_,rfl⟩:=e
   exact ⟨by simpa [ones] using h4.1,h4.2⟩
  subst hX0
  subst hc0
  have hk0:kk=0:=by rw [hkk]; simp
  subst hk0
  refine aops_step fun T S hT hS=>?_
  conv=>whnf
  refine hT _ _ ?_
  refine aops_step fun T S hT hS=>?_
  conv=>whnf
  refine ⟨[],rfl,rfl,rfl,?_⟩
  conv=>whnf
  refine ⟨by rw [List.length_map,Nat.mul_one],hRc,rfl,rfl,⟨by omega,by omega⟩,fun cap' hcap'=>?_⟩
  conv=>whnf
  refine hT _ _ ?_
  iterate 3 (refine aops_step fun T S hT hS=>?_; (conv=>whnf); refine hT _ _ ?_)
  refine aops_end ?_
  refine hK2 _ _ ?_
  clear hK2 hR2
  refine swp_cut fun K2 hK2 hR2 _=>?_
  iterate 4 (refine aops_step fun T S hT hS=>?_; (conv=>whnf); refine hT _ _ ?_)
  refine aops_end ?_
  refine hK2 _ _ ?_
  clear hK2 hR2
  refine swp_cut fun K2 hK2 hR2 _=>?_
  conv=>whnf
  have hlt:decide (((R.length+0:Nat):Int)<64)=true:=decide_eq_true (by omega)
  rw [hlt]
  conv=>whnf
  refine hR2 _ _ ?_
  refine hR _ _ ?_
  conv=>whnf
  left
  refine ⟨by simpa using hR64,rfl,t,cap',B0,by simpa using hcap',?_⟩
  rw [List.append_nil]
  simp only [List.append_nil]
  rfl
 | some (.ext a),hs=>
  have hsp:a.spot=none:=by
   obtain ⟨p',cap',e,h2,h3,h4⟩:=id hs
   simp only [TV.one.injEq,Sc.slice.injEq] at e
   obtain ⟨rfl,_,rfl⟩:=e
   exact h4.1
  have hcap:X.length≤cap:=by
   obtain ⟨p',cap',e,h2,h3,h4⟩:=id hs
   simp only [TV.one.injEq,Sc.slice.injEq] at e
   rw [u8s_len] at h2
   omega
  have d1:decide (X.length≤cap∧(0:Int)≤(kk:Int)∧(kk:Int)≤(cap:Int)∧(0:Int)≤((0:Nat):Int)∧((0:Nat):Int)≤(kk:Int))=true:=decide_eq_true ⟨hcap,by omega,by omega,by omega,by omega⟩
  have d2:decide (X.length≤cap∧(0:Int)≤(X.length:Int)∧(X.length:Int)≤(cap:Int)∧(0:Int)≤(kk:Int)∧(kk:Int)≤(X.length:Int))=true:=decide_eq_true ⟨hcap,by omega,by omega,by omega,by omega⟩
  have hfst:=hs.fst hkx
  refine aops_step fun T S hT hS=>?_
  conv=>whnf
  rw [d1]
  conv=>whnf
  have hTv:T (.one (.slice (some (.ext a)) kk cap)) ⟨[some ⟨hcells s (.slice (some (.loc 1 0)) R.length cap0) (n+X.length),t,0,false⟩,some ⟨u8s R,t_uint8,cap0*1,true⟩],B0⟩:=by
   refine hT _ _ ?_
   refine aops_step fun T S hT hS=>?_
   conv=>whnf
   refine ⟨u8s (X.take kk),hfst.has (by rw [List.length_map,hl]),by rw [List.length_map,hl,Nat.mul_one],rfl,?_⟩
   conv=>whnf
   refine ⟨by rw [List.length_map,Nat.mul_one],hRc,rfl,rfl,⟨by omega,by omega⟩,fun cap' hcap'=>?_⟩
   conv=>whnf
   refine hT _ _ ?_
   iterate 3 (refine aops_step fun T S hT hS=>?_; (conv=>whnf); refine hT _ _ ?_)
   refine aops_end ?_
   refine hK2 _ _ ?_
   clear hK2 hR2
   refine swp_cut fun K2 hK2 hR2 _=>?_
   iterate 2 (refine aops_step fun T S hT hS=>?_; (conv=>whnf); refine hT _ _ ?_)
   refine aops_step fun T S hT hS=>?_
   conv=>whnf
   rw [d2]
   conv=>whnf
   cases hkc:Nat.beq (Int.toNat (kk:Int)) cap with
   | true=>
    have hkc:kk=cap:=nbeq.1 hkc
    conv=>whnf
    show T (.one (.slice (some (.ext a)) (X.length-kk) (cap-kk))) _
    rw [hXl]
    have hs2:Sl A 1 (.one (.slice (some (.ext a)) (X.drop kk).length (cap-kk))) (ones (u8s (X.drop kk))):=by
     rw [← hXl,show X.length-kk=0 by omega,show cap-kk=0 by omega,List.drop_eq_nil_of_le (by omega)]
     exact hs.nil0
    refine hT _ _ ?_
    refine aops_step fun T S hT hS=>?_
    conv=>whnf
    refine hT _ _ ?_
    refine aops_end ?_
    refine hK2 _ _ ?_
    clear hK2 hR2
    refine swp_cut fun K2 hK2 hR2 _=>?_
    conv=>whnf
    cases hlt:decide (((R.length+kk:Nat):Int)<64) with
    | true=>
     have hlt:R.length+kk<64:=by have:=of_decide_eq_true hlt; omega
     have hkX:kk=X.length:=by omega
     conv=>whnf
     refine hR2 _ _ ?_
     refine hR _ _ ?_
     conv=>whnf
     left
     refine ⟨by omega,rfl,t,cap',B0,by omega,?_⟩
     subst hkX
     rw [hu8]
     rfl
    | false=>
     have hlt:R.length+kk=64:=by have:=of_decide_eq_false hlt; omega
     conv=>whnf
     refine hK2 _ _ ?_
     clear hK2 hR2
     have hP:(R++X.take kk).length=64:=by rw [List.length_append,List.length_take]; omega
     have hPY:R++X.take kk=(R++X).take 64:=by
      have e1:R.take 64=R:=List.take_of_length_le (by omega)
      rw [List.take_append,e1,show 64-R.length=kk by omega]
     rw [hlt]
     refine swp_cut fun K2 hK2 hR2 _=>?_
     iterate 9 (refine aops_step fun T S hT hS=>?_; (conv=>whnf); refine hT _ _ ?_)
     refine aops_step fun T S hT hS=>?_
     conv=>whnf
     refine ⟨fun v _=>v=.agg (runP (R++X) s 1).cells,fun c B hB hL=>by
      have:=mixed_hc (A:=B) (s:=s) (P:=R++X.take kk) hP (ERead_le (fun r o h=>hB r o (.inl h)) hTb) (q:=some (.ext ⟨c.ι 2,0,none⟩)) (cap:=cap') (sl_lent (b:=2) (o:=0) (L:=ones (u8s (R++X.take kk))) (post:=[]) hL rfl (by rw [hu8']; exact ints_cl _ _ 0) (by rw [ones_flat,hu8']; exact (List.append_nil _).symm) (by rw [u8s_len]; exact hP.symm) (by rw [u8s_len]; omega) (by rw [u8s_len]; omega) (ones_es _))
      rw [hPY] at this
      exact this,⟨_,B0,rfl,rfl⟩,?_⟩
     rintro v N' _ rfl N1 _
     refine hT _ _ ?_
     iterate 3 (refine aops_step fun T S hT hS=>?_; (conv=>whnf); refine hT _ _ ?_)
     refine aops_end ?_
     refine hK2 _ _ ?_
     clear hK2 hR2
     iterate 4 (refine aops_step fun T S hT hS=>?_; (conv=>whnf); refine hT _ _ ?_)
     refine aops_end ?_
     conv=>whnf
     refine hK _ _ ?_
     clear hK hR
     have hWr:∀ v m',WrKL (X.drop kk) (runP (R++X) s 1) (n+X.length) v m'→WrK2 R X s (n+X.length) v m':=fun v m' h=>.inr ⟨by omega,by rw [show 64-R.length=kk by omega]; exact h⟩
     have hX2:(X.drop kk).length≤140737488360000:=by rw [List.length_drop]; omega
     generalize X.drop kk=X2 at *
     generalize runP (R++X) s 1=s2 at *
     generalize n+X.length=n2 at *
     refine swp_cut fun K hK hR _=>?_
     conv=>whnf
     refine .inr (loop_invC (gH A _) (WrI A X2 s2 n2 [none,none]) ?_ ?_)
     ·intro k' e' m' hI
      obtain ⟨j,t,cap,p,N,hj,rfl,hs,rfl,rfl⟩:=hI
      obtain ⟨g1,g2,g3⟩:=hs.stable
      conv=>whnf
      cases hlt:decide (((X2.length-64*j:Nat):Int) ≥ 64) with
      | true=>
       have hlt:64≤X2.length-64*j:=by have:=of_decide_eq_true hlt; omega
       obtain ⟨a,rfl⟩:=sl_ext' hs (by rw [u8s_len,List.length_drop]; omega)
       have hcap:X2.length-64*j≤cap:=by
        obtain ⟨p',cap',e,h2,h3,h4⟩:=hs
        simp only [TV.one.injEq,Sc.slice.injEq] at e
        rw [u8s_len,List.length_drop] at h2
        omega
       show swpC _ (Code.seq _ _) _ _ _
       refine swp_cut fun K4 hK4 hR4 _=>?_
       have hsp:a.spot=none:=by
        obtain ⟨p',cap',e,h2,h3,h4⟩:=hs
        simp only [TV.one.injEq,Sc.slice.injEq] at e
        obtain ⟨rfl,_,rfl⟩:=e
        exact h4.1
       have hX1:(X2.drop (64*j)).length=X2.length-64*j:=List.length_drop
       have d1:decide (X2.length-64*j≤cap∧(0:Int)≤64∧(64:Int)≤(cap:Int)∧(0:Int)≤((0:Nat):Int)∧((0:Nat):Int)≤64)=true:=decide_eq_true ⟨hcap,by omega,by omega,by omega,by omega⟩
       have hb0:Nat.beq (((0:Nat):Int).toNat) cap=false:=by
        cases hh:Nat.beq (((0:Nat):Int).toNat) cap with
        | false=>rfl
        | true=>
         have:0=cap:=nbeq.1 hh
         omega
       have cm:=fun (s':S8) (B:Base) (hB:Base.le A B)=>mixed_hc (A:=B) (s:=s') (P:=(X2.drop (64*j)).take 64) (by rw [List.length_take]; omega) (ERead_le hB hTb) ((hs.fst (k:=64) (by omega)).mono hB)
       iterate 6 (refine aops_step fun T S hT hS=>?_; (conv=>whnf); refine hT _ _ ?_)
       refine aops_step fun T S hT hS=>?_
       conv=>whnf
       rw [d1]
       conv=>whnf
       rw [hb0]
       conv=>whnf
       show T (.one (.slice (some (.ext (a.add 0))) 64 cap)) _
       rw [addr_zero hsp]
       refine hT _ _ ?_
       refine aops_step fun T S hT hS=>?_
       conv=>whnf
       refine ⟨fun v _=>v=.agg (runP X2 s2 (j+1)).cells,fun c B hB hL=>cm (runP X2 s2 j) B (fun r o h=>hB r o (.inl h)),⟨_,B0,rfl,rfl⟩,?_⟩
       rintro v N' _ rfl N1 _
       refine hT _ _ ?_
       iterate 3 (refine aops_step fun T S hT hS=>?_; (conv=>whnf); refine hT _ _ ?_)
       refine aops_end ?_
       refine hK4 _ _ ?_
       clear hK4 hR4
       have hlen:X2.length-64*j-64=X2.length-64*(j+1):=by omega
       have hdd:(X2.drop (64*j)).drop 64=X2.drop (64*(j+1)):=by rw [List.drop_drop,Nat.mul_succ]
       have d2:decide (X2.length-64*j≤cap∧(0:Int)≤((X2.length-64*j:Nat):Int)∧((X2.length-64*j:Nat):Int)≤(cap:Int)∧(0:Int)≤64∧(64:Int)≤((X2.length-64*j:Nat):Int))=true:=decide_eq_true ⟨hcap,by omega,by omega,by omega,by omega⟩
       refine aops_step fun T S hT hS=>?_
       conv=>whnf
       refine hT _ _ ?_
       refine aops_step fun T S hT hS=>?_
       conv=>whnf
       rw [d2]
       conv=>whnf
       cases h64:Nat.beq (Int.toNat 64) cap with
       | true=>
        have h64:64=cap:=nbeq.1 h64
        conv=>whnf
        show T (.one (.slice (some (.ext a)) (X2.length-64*j-64) (cap-64))) _
        have hs':Sl A 1 (.one (.slice (some (.ext a)) (X2.length-64*(j+1)) (cap-64))) (ones (u8s (X2.drop (64*(j+1))))):=by
         have e:X2.length-64*(j+1)=0:=by omega
         rw [e,List.drop_eq_nil_of_le (by omega),← h64]
         exact hs.nil0
        rw [hlen]
        refine hT _ _ ?_
        refine aops_step fun T S hT hS=>?_
        conv=>whnf
        refine hT _ _ ?_
        refine aops_end ?_
        conv=>whnf
        refine ⟨X2.length-64*(j+1),F0,by omega,fun c N1 _ _=>⟨_,_,wk_of (by (repeat' apply And.intro)<;>first | trivial | exact ⟨_,rfl,rfl,rfl⟩ | exact ⟨_,rfl,hs'.stable.2.1 _ _,hs'.stable.1 _⟩) (by (repeat' apply And.intro)<;>first | trivial | rfl | exact ⟨_,rfl,rfl,rfl⟩) (by exact Nat.le_of_ble_eq_true rfl) (by exact Nat.le_of_ble_eq_true rfl),⟨j+1,t,cap-64,_,N1,by omega,rfl,hs',rfl,rfl⟩⟩⟩
       | false=>
        have h64:64≠cap:=fun h=>by rw [← h] at h64; cases h64
        conv=>whnf
        show T (.one (.slice (some (.ext (a.add 64))) (X2.length-64*j-64) (cap-64))) _
        have hs':Sl A 1 (.one (.slice (some (.ext (a.add 64))) (X2.length-64*(j+1)) (cap-64))) (ones (u8s (X2.drop (64*(j+1))))):=by
         have:=hs.rest (k:=64) (by omega)
         rw [hX1,hlen,hdd] at this
         exact this
        rw [hlen]
        refine hT _ _ ?_
        refine aops_step fun T S hT hS=>?_
        conv=>whnf
        refine hT _ _ ?_
        refine aops_end ?_
        conv=>whnf
        refine ⟨X2.length-64*(j+1),F0,by omega,fun c N1 _ _=>⟨_,_,wk_of (by (repeat' apply And.intro)<;>first | trivial | exact ⟨_,rfl,rfl,rfl⟩ | exact ⟨_,rfl,hs'.stable.2.1 _ _,hs'.stable.1 _⟩) (by (repeat' apply And.intro)<;>first | trivial | rfl | exact ⟨_,rfl,rfl,rfl⟩) (by exact Nat.le_of_ble_eq_true rfl) (by exact Nat.le_of_ble_eq_true rfl),⟨j+1,t,cap-64,_,N1,by omega,rfl,hs',rfl,rfl⟩⟩⟩
      | false=>
       conv=>whnf
       refine hK _ _ ?_
       clear hK hR
       have hlt:X2.length-64*j<64:=by have:=of_decide_eq_false hlt; omega
       obtain rfl:j=X2.length/64:=by omega
       have hr:X2.length-64*(X2.length/64)=X2.length%64:=by omega
       rw [hr] at hs ⊢
       iterate 6 (refine aops_step fun T S hT hS=>?_; (conv=>whnf); refine hT _ _ ?_)
       refine aops_step fun T S hT hS=>?_
       conv=>whnf
       refine ⟨u8s (X2.drop (64*(X2.length/64))),hs.has (by rw [List.length_map,List.length_drop,hr]),by rw [List.length_map,List.length_drop,Nat.mul_one,hr],rfl,?_⟩
       conv=>whnf
       cases h0:Nat.beq (X2.length%64) 0 with
       | true=>
        have h0:X2.length%64=0:=nbeq.1 h0
        refine hT _ _ ?_
        iterate 3 (refine aops_step fun T S hT hS=>?_; (conv=>whnf); refine hT _ _ ?_)
        refine aops_end ?_
        conv=>whnf
        exact hWr _ _ ⟨rfl,.inl ⟨h0,t,N,rfl⟩⟩
       | false=>
        have h0:X2.length%64≠0:=fun h=>by rw [h] at h0; cases h0
        refine ⟨⟨by omega,by omega⟩,by omega,fun cap' hcap'=>?_⟩
        conv=>whnf
        refine hT _ _ ?_
        iterate 3 (refine aops_step fun T S hT hS=>?_; (conv=>whnf); refine hT _ _ ?_)
        refine aops_end ?_
        conv=>whnf
        exact hWr _ _ ⟨rfl,.inr ⟨h0,t,cap',N,hcap',rfl⟩⟩
     ·refine ⟨X2.length,F0,fun c N1 _ _=>⟨_,_,wk_of (by (repeat' apply And.intro)<;>first | trivial | exact ⟨_,rfl,rfl,rfl⟩ | exact ⟨_,rfl,hs2.stable.2.1 _ _,hs2.stable.1 _⟩) (by (repeat' apply And.intro)<;>first | trivial | rfl | exact ⟨_,rfl,rfl,rfl⟩) (by exact Nat.le_of_ble_eq_true rfl) (by exact Nat.le_of_ble_eq_true rfl),⟨0,_,_,_,N1,by omega,rfl,hs2,rfl,rfl⟩⟩⟩
   | false=>
    conv=>whnf
    show T (.one (.slice (some (.ext (a.add (kk*1)))) (X.length-kk) (cap-kk))) _
    rw [hXl]
    have hs2:Sl A 1 (.one (.slice (some (.ext (a.add (kk*1)))) (X.drop kk).length (cap-kk))) (ones (u8s (X.drop kk))):=by
     rw [Nat.mul_one,← hXl]
     exact hs.rest hkx
    refine hT _ _ ?_
    refine aops_step fun T S hT hS=>?_
    conv=>whnf
    refine hT _ _ ?_
    refine aops_end ?_
    refine hK2 _ _ ?_
    clear hK2 hR2
    refine swp_cut fun K2 hK2 hR2 _=>?_
    conv=>whnf
    cases hlt:decide (((R.length+kk:Nat):Int)<64) with
    | true=>
     have hlt:R.length+kk<64:=by have:=of_decide_eq_true hlt; omega
     have hkX:kk=X.length:=by omega
     conv=>whnf
     refine hR2 _ _ ?_
     refine hR _ _ ?_
     conv=>whnf
     left
     refine ⟨by omega,rfl,t,cap',B0,by omega,?_⟩
     subst hkX
     rw [hu8]
     rfl
    | false=>
     have hlt:R.length+kk=64:=by have:=of_decide_eq_false hlt; omega
     conv=>whnf
     refine hK2 _ _ ?_
     clear hK2 hR2
     have hP:(R++X.take kk).length=64:=by rw [List.length_append,List.length_take]; omega
     have hPY:R++X.take kk=(R++X).take 64:=by
      have e1:R.take 64=R:=List.take_of_length_le (by omega)
      rw [List.take_append,e1,show 64-R.length=kk by omega]
     rw [hlt]
     refine swp_cut fun K2 hK2 hR2 _=>?_
     iterate 9 (refine aops_step fun T S hT hS=>?_; (conv=>whnf); refine hT _ _ ?_)
     refine aops_step fun T S hT hS=>?_
     conv=>whnf
     refine ⟨fun v _=>v=.agg (runP (R++X) s 1).cells,fun c B hB hL=>by
      have:=mixed_hc (A:=B) (s:=s) (P:=R++X.take kk) hP (ERead_le (fun r o h=>hB r o (.inl h)) hTb) (q:=some (.ext ⟨c.ι 2,0,none⟩)) (cap:=cap') (sl_lent (b:=2) (o:=0) (L:=ones (u8s (R++X.take kk))) (post:=[]) hL rfl (by rw [hu8']; exact ints_cl _ _ 0) (by rw [ones_flat,hu8']; exact (List.append_nil _).symm) (by rw [u8s_len]; exact hP.symm) (by rw [u8s_len]; omega) (by rw [u8s_len]; omega) (ones_es _))
      rw [hPY] at this
      exact this,⟨_,B0,rfl,rfl⟩,?_⟩
     rintro v N' _ rfl N1 _
     refine hT _ _ ?_
     iterate 3 (refine aops_step fun T S hT hS=>?_; (conv=>whnf); refine hT _ _ ?_)
     refine aops_end ?_
     refine hK2 _ _ ?_
     clear hK2 hR2
     iterate 4 (refine aops_step fun T S hT hS=>?_; (conv=>whnf); refine hT _ _ ?_)
     refine aops_end ?_
     conv=>whnf
     refine hK _ _ ?_
     clear hK hR
     have hWr:∀ v m',WrKL (X.drop kk) (runP (R++X) s 1) (n+X.length) v m'→WrK2 R X s (n+X.length) v m':=fun v m' h=>.inr ⟨by omega,by rw [show 64-R.length=kk by omega]; exact h⟩
     have hX2:(X.drop kk).length≤140737488360000:=by rw [List.length_drop]; omega
     generalize X.drop kk=X2 at *
     generalize runP (R++X) s 1=s2 at *
     generalize n+X.length=n2 at *
     refine swp_cut fun K hK hR _=>?_
     conv=>whnf
     refine .inr (loop_invC (gH A _) (WrI A X2 s2 n2 [none,none]) ?_ ?_)
     ·intro k' e' m' hI
      obtain ⟨j,t,cap,p,N,hj,rfl,hs,rfl,rfl⟩:=hI
      obtain ⟨g1,g2,g3⟩:=hs.stable
      conv=>whnf
      cases hlt:decide (((X2.length-64*j:Nat):Int) ≥ 64) with
      | true=>
       have hlt:64≤X2.length-64*j:=by have:=of_decide_eq_true hlt; omega
       obtain ⟨a,rfl⟩:=sl_ext' hs (by rw [u8s_len,List.length_drop]; omega)
       have hcap:X2.length-64*j≤cap:=by
        obtain ⟨p',cap',e,h2,h3,h4⟩:=hs
        simp only [TV.one.injEq,Sc.slice.injEq] at e
        rw [u8s_len,List.length_drop] at h2
        omega
       show swpC _ (Code.seq _ _) _ _ _
       refine swp_cut fun K4 hK4 hR4 _=>?_
       have hsp:a.spot=none:=by
        obtain ⟨p',cap',e,h2,h3,h4⟩:=hs
        simp only [TV.one.injEq,Sc.slice.injEq] at e
        obtain ⟨rfl,_,rfl⟩:=e
        exact h4.1
       have hX1:(X2.drop (64*j)).length=X2.length-64*j:=List.length_drop
       have d1:decide (X2.length-64*j≤cap∧(0:Int)≤64∧(64:Int)≤(cap:Int)∧(0:Int)≤((0:Nat):Int)∧((0:Nat):Int)≤64)=true:=decide_eq_true ⟨hcap,by omega,by omega,by omega,by omega⟩
       have hb0:Nat.beq (((0:Nat):Int).toNat) cap=false:=by
        cases hh:Nat.beq (((0:Nat):Int).toNat) cap with
        | false=>rfl
        | true=>
         have:0=cap:=nbeq.1 hh
         omega
       have cm:=fun (s':S8) (B:Base) (hB:Base.le A B)=>mixed_hc (A:=B) (s:=s') (P:=(X2.drop (64*j)).take 64) (by rw [List.length_take]; omega) (ERead_le hB hTb) ((hs.fst (k:=64) (by omega)).mono hB)
       iterate 6 (refine aops_step fun T S hT hS=>?_; (conv=>whnf); refine hT _ _ ?_)
       refine aops_step fun T S hT hS=>?_
       conv=>whnf
       rw [d1]
       conv=>whnf
       rw [hb0]
       conv=>whnf
       show T (.one (.slice (some (.ext (a.add 0))) 64 cap)) _
       rw [addr_zero hsp]
       refine hT _ _ ?_
       refine aops_step fun T S hT hS=>?_
       conv=>whnf
       refine ⟨fun v _=>v=.agg (runP X2 s2 (j+1)).cells,fun c B hB hL=>cm (runP X2 s2 j) B (fun r o h=>hB r o (.inl h)),⟨_,B0,rfl,rfl⟩,?_⟩
       rintro v N' _ rfl N1 _
       refine hT _ _ ?_
       iterate 3 (refine aops_step fun T S hT hS=>?_; (conv=>whnf); refine hT _ _ ?_)
       refine aops_end ?_
       refine hK4 _ _ ?_
       clear hK4 hR4
       have hlen:X2.length-64*j-64=X2.length-64*(j+1):=by omega
       have hdd:(X2.drop (64*j)).drop 64=X2.drop (64*(j+1)):=by rw [List.drop_drop,Nat.mul_succ]
       have d2:decide (X2.length-64*j≤cap∧(0:Int)≤((X2.length-64*j:Nat):Int)∧((X2.length-64*j:Nat):Int)≤(cap:Int)∧(0:Int)≤64∧(64:Int)≤((X2.length-64*j:Nat):Int))=true:=decide_eq_true ⟨hcap,by omega,by omega,by omega,by omega⟩
       refine aops_step fun T S hT hS=>?_
       conv=>whnf
       refine hT _ _ ?_
       refine aops_step fun T S hT hS=>?_
       conv=>whnf
       rw [d2]
       conv=>whnf
       cases h64:Nat.beq (Int.toNat 64) cap with
       | true=>
        have h64:64=cap:=nbeq.1 h64
        conv=>whnf
        show T (.one (.slice (some (.ext a)) (X2.length-64*j-64) (cap-64))) _
        have hs':Sl A 1 (.one (.slice (some (.ext a)) (X2.length-64*(j+1)) (cap-64))) (ones (u8s (X2.drop (64*(j+1))))):=by
         have e:X2.length-64*(j+1)=0:=by omega
         rw [e,List.drop_eq_nil_of_le (by omega),← h64]
         exact hs.nil0
        rw [hlen]
        refine hT _ _ ?_
        refine aops_step fun T S hT hS=>?_
        conv=>whnf
        refine hT _ _ ?_
        refine aops_end ?_
        conv=>whnf
        refine ⟨X2.length-64*(j+1),F0,by omega,fun c N1 _ _=>⟨_,_,wk_of (by (repeat' apply And.intro)<;>first | trivial | exact ⟨_,rfl,rfl,rfl⟩ | exact ⟨_,rfl,hs'.stable.2.1 _ _,hs'.stable.1 _⟩) (by (repeat' apply And.intro)<;>first | trivial | rfl | exact ⟨_,rfl,rfl,rfl⟩) (by exact Nat.le_of_ble_eq_true rfl) (by exact Nat.le_of_ble_eq_true rfl),⟨j+1,t,cap-64,_,N1,by omega,rfl,hs',rfl,rfl⟩⟩⟩
       | false=>
        have h64:64≠cap:=fun h=>by rw [← h] at h64; cases h64
        conv=>whnf
        show T (.one (.slice (some (.ext (a.add 64))) (X2.length-64*j-64) (cap-64))) _
        have hs':Sl A 1 (.one (.slice (some (.ext (a.add 64))) (X2.length-64*(j+1)) (cap-64))) (ones (u8s (X2.drop (64*(j+1))))):=by
         have:=hs.rest (k:=64) (by omega)
         rw [hX1,hlen,hdd] at this
         exact this
        rw [hlen]
        refine hT _ _ ?_
        refine aops_step fun T S hT hS=>?_
        conv=>whnf
        refine hT _ _ ?_
        refine aops_end ?_
        conv=>whnf
        refine ⟨X2.length-64*(j+1),F0,by omega,fun c N1 _ _=>⟨_,_,wk_of (by (repeat' apply And.intro)<;>first | trivial | exact ⟨_,rfl,rfl,rfl⟩ | exact ⟨_,rfl,hs'.stable.2.1 _ _,hs'.stable.1 _⟩) (by (repeat' apply And.intro)<;>first | trivial | rfl | exact ⟨_,rfl,rfl,rfl⟩) (by exact Nat.le_of_ble_eq_true rfl) (by exact Nat.le_of_ble_eq_true rfl),⟨j+1,t,cap-64,_,N1,by omega,rfl,hs',rfl,rfl⟩⟩⟩
      | false=>
       conv=>whnf
       refine hK _ _ ?_
       clear hK hR
       have hlt:X2.length-64*j<64:=by have:=of_decide_eq_false hlt; omega
       obtain rfl:j=X2.length/64:=by omega
       have hr:X2.length-64*(X2.length/64)=X2.length%64:=by omega
       rw [hr] at hs ⊢
       iterate 6 (refine aops_step fun T S hT hS=>?_; (conv=>whnf); refine hT _ _ ?_)
       refine aops_step fun T S hT hS=>?_
       conv=>whnf
       refine ⟨u8s (X2.drop (64*(X2.length/64))),hs.has (by rw [List.length_map,List.length_drop,hr]),by rw [List.length_map,List.length_drop,Nat.mul_one,hr],rfl,?_⟩
       conv=>whnf
       cases h0:Nat.beq (X2.length%64) 0 with
       | true=>
        have h0:X2.length%64=0:=nbeq.1 h0
        refine hT _ _ ?_
        iterate 3 (refine aops_step fun T S hT hS=>?_; (conv=>whnf); refine hT _ _ ?_)
        refine aops_end ?_
        conv=>whnf
        exact hWr _ _ ⟨rfl,.inl ⟨h0,t,N,rfl⟩⟩
       | false=>
        have h0:X2.length%64≠0:=fun h=>by rw [h] at h0; cases h0
        refine ⟨⟨by omega,by omega⟩,by omega,fun cap' hcap'=>?_⟩
        conv=>whnf
        refine hT _ _ ?_
        iterate 3 (refine aops_step fun T S hT hS=>?_; (conv=>whnf); refine hT _ _ ?_)
        refine aops_end ?_
        conv=>whnf
        exact hWr _ _ ⟨rfl,.inr ⟨h0,t,cap',N,hcap',rfl⟩⟩
     ·refine ⟨X2.length,F0,fun c N1 _ _=>⟨_,_,wk_of (by (repeat' apply And.intro)<;>first | trivial | exact ⟨_,rfl,rfl,rfl⟩ | exact ⟨_,rfl,hs2.stable.2.1 _ _,hs2.stable.1 _⟩) (by (repeat' apply And.intro)<;>first | trivial | rfl | exact ⟨_,rfl,rfl,rfl⟩) (by exact Nat.le_of_ble_eq_true rfl) (by exact Nat.le_of_ble_eq_true rfl),⟨0,_,_,_,N1,by omega,rfl,hs2,rfl,rfl⟩⟩⟩
  cases h0:Nat.beq (Int.toNat ((0:Nat):Int)) cap with
  | true=>exact hTv
  | false=>
   rw [← addr_zero hsp] at hTv
   exact hTv

end Go.Hv

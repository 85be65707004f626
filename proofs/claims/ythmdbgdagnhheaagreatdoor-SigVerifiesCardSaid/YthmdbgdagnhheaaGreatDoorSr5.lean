import Derived.Test.YthmdbgdagnhheaaGreatDoorSr4
namespace Go.Hv
open Go.Ev Go.Ec

def ordSv:Nat→Option (List Nat)
 | 1=>some [0,1,2,3,4,6,7,8,5,9,10,11,12]
 | _=>none

set_option maxHeartbeats 1000000 in
set_option maxRecDepth 100000 in
theorem lawSigVerifies_hc {A:Base} {key X SS:List Int} {p:Option SP} {cap:Nat} (hTb:Tab A) (hT0:Tab0 A) (hk:key.length=32) (hk8:∀ z∈key,0≤z∧z<256) (hX8:∀ z∈X,0≤z∧z<256) (hXl:X.length≤140737488351232) (hX:Sl A 1 (.one (.slice p X.length cap)) (ones (u8s X)))
  (hS:SS.length=64) (hS8:∀ z∈SS,0≤z∧z<256) :
  HC PG A f_law06_SigVerifies [.agg (u8s key),.one (.slice p X.length cap),.agg (u8s SS)] fun v _=>v=.one (.bool true):=by
 have e12:SS=SS.take 32++SS.drop 32:=(List.take_append_drop 32 SS).symm
 have l1:(SS.take 32).length=32:=by rw [List.length_take]; omega
 have l2:(SS.drop 32).length=32:=by rw [List.length_drop]; omega
 have b1:∀ z∈SS.take 32,0≤z∧z<256:=fun z hz=>hS8 z (List.mem_of_mem_take hz)
 have b2:∀ z∈SS.drop 32,0≤z∧z<256:=fun z hz=>hS8 z (List.mem_of_mem_drop hz)
 have cV:=fun (B:Base) (hB:Base.le A B)=>verify_hc (A:=B) (ERead_le hB hTb) hk hk8 l1 b1 l2 b2 (hX.mono hB)
 have cR:=fun (B:Base) (hB:Base.le A B)=>r6Verify_hc (A:=B) (ERead_le hB hT0) hk hk8 l1 b1 l2 b2 hX8 hXl (hX.mono hB)
 rw [← e12] at cV cR
 generalize vfV key (SS.take 32) (SS.drop 32) X=ans at *
 clear e12 l1 l2 b1 b2
 refine hc_start ordSv h_law06_SigVerifies rfl (by kernel_rfl) (by kernel_rfl) (closedTs_iff.2 fun v hv=>by
  simp only [List.mem_cons,List.not_mem_nil,or_false] at hv
  rcases hv with rfl | rfl | rfl
  ·exact ints_cl _ _ 0
  ·exact hX.stable.1 0
  ·exact ints_cl _ _ 0) ?_
 have tk:takeAt (u8s key) 0 32=some (u8s key):=by
  have:=takeAt_app [] (u8s key) []
  rw [List.append_nil,List.length_map,hk] at this
  exact this
 have ts:takeAt (u8s SS) 0 64=some (u8s SS):=by
  have:=takeAt_app [] (u8s SS) []
  rw [List.append_nil,List.length_map,hS] at this
  exact this
 have hexk:∀ c,extL c (u8s key)=u8s key:=fun c=>extL_closed c (ints_cl _ _ 0)
 have hexs:∀ c,extL c (u8s SS)=u8s SS:=fun c=>extL_closed c (ints_cl _ _ 0)
 refine swp_cut fun K hK hR _=>?_
 conv=>whnf
 refine hK _ _ ?_
 clear hK hR
 refine swp_cut fun K hK hR _=>?_
 refine aops_step fun T S hT hS=>?_
 conv=>whnf
 refine ⟨fun v _=>v=.one (.bool true),fun c B hB hL=>alive6_hc (ERead_le (fun r o h=>hB r o (.inl h)) hTb),⟨_,B0,rfl,rfl⟩,?_⟩
 rintro v N' _ rfl N1 _
 refine hT _ _ ?_
 refine aops_step fun T S hT hS=>?_
 conv=>whnf
 refine hT _ _ ?_
 refine aops_step fun T S hT hS=>?_
 conv=>whnf
 conv in (takeAt _ _ _)=>change takeAt (u8s key) 0 32; rw [tk]
 conv=>whnf
 refine hT _ _ ?_
 refine aops_step fun T S hT hS=>?_
 conv=>whnf
 refine hT _ _ ?_
 refine aops_step fun T S hT hS=>?_
 conv=>whnf
 conv in (takeAt _ _ _)=>change takeAt (u8s SS) 0 64; rw [ts]
 conv=>whnf
 refine hT _ _ ?_
 refine aops_step fun T S hT hS=>?_
 conv=>whnf
 conv in (takeAt _ _ _)=>change takeAt (u8s key) 0 32; rw [tk]
 conv=>whnf
 refine hT _ _ ?_
 refine aops_step fun T S hT hS=>?_
 conv=>whnf
 refine hT _ _ ?_
 refine aops_step fun T S hT hS=>?_
 conv=>whnf
 conv in (takeAt _ _ _)=>change takeAt (u8s SS) 0 64; rw [ts]
 conv=>whnf
 refine hT _ _ ?_
 refine aops_step fun T S hT hS=>?_
 conv=>whnf
 refine ⟨fun v _=>v=.one (.bool ans),fun c B hB hL=>by
  show HC PG B f_sig_Verify [.agg (extL c (u8s key)),TV.ext c (.one (.slice p X.length cap)),.agg (extL c (u8s SS))] _
  rw [hexk c,hexs c,hX.stable.2.2 c]
  exact cV B (fun r o h=>hB r o (.inl h)),⟨_,B0,rfl,rfl⟩,?_⟩
 rintro v N' _ rfl N1 _
 refine hT _ _ ?_
 refine aops_step fun T S hT hS=>?_
 conv=>whnf
 refine ⟨fun v _=>v=.one (.bool ans),fun c B hB hL=>by
  show HC PG B f_ref06_Verify [.agg (extL c (u8s key)),TV.ext c (.one (.slice p X.length cap)),.agg (extL c (u8s SS))] _
  rw [hexk c,hexs c,hX.stable.2.2 c]
  exact cR B (fun r o h=>hB r o (.inl h)),⟨_,B0,rfl,rfl⟩,?_⟩
 rintro v N' _ rfl N1 _
 refine hT _ _ ?_
 cases ans<;>skip
 all_goals
  iterate 3 (refine aops_step fun T S hT hS=>?_; (conv=>whnf); refine hT _ _ ?_)
  refine aops_end ?_
  refine hK _ _ ?_
  conv=>whnf
  intro c N2 _ _
  rfl

end Go.Hv

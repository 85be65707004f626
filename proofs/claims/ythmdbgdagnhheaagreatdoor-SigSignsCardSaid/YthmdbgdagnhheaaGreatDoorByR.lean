import Derived.Test.YthmdbgdagnhheaaGreatDoorByB
import Derived.Test.YthmdbgdagnhheaaGreatDoorSc1
namespace Go.Hv
open Go.Ev

set_option maxRecDepth 100000 in
theorem scBytes_fn {x:Int} (hx:InW x):Ev.Fn PG f_scalar_Bytes [W x] (.agg (bcs4 (x%nn))):=by
 refine fn_startH (fun _=>none) h_scalar_Bytes rfl (by kernel_rfl) (fun _=>by kernel_rfl) rfl rfl fun A=>?_
 have n1:=scNorm_fn hx
 generalize x%nn=y at *
 refine swp_cut fun K hK _ _=>?_
 conv=>whnf
 refine hK _ _ (swp_cut fun K hK _ _=>?_)
 conv=>whnf
 refine hK _ _ (swp_cut fun K hK _ hR0=>?_)
 conv=>whnf
 refine ⟨_,n1,rfl,?_⟩
 conv=>whnf
 refine .inl ⟨5,round_cut fun K1 hK1 hX1 _=>?_⟩
 conv=>whnf
 refine .inl ⟨9,?_⟩
 conv=>whnf
 refine hK1 _ _ ?_
 clear hK1 hX1
 refine round_next [(9,.one (.int .i64 1)),(8,W y),(7,W x),(3,.one (.ptr (some (.loc 2 0)))),(2,.one (.ptr (some (.loc 1 0)))),(1,.one (.ptr (some (.loc 0 0)))),(0,W x)] ⟨[some ⟨words x,t_api_Scalar,0,false⟩,some ⟨List.replicate 32 (Sc.int IntKind.u8 0),t_a32_uint8,0,false⟩,some ⟨bcs1 y,t_a32_uint8,0,false⟩],_⟩ rfl rfl ?_
 refine round_cut fun K1 hK1 hX1 _=>?_
 conv=>whnf
 refine .inl ⟨9,?_⟩
 conv=>whnf
 refine hK1 _ _ ?_
 clear hK1 hX1
 refine round_next [(9,.one (.int .i64 2)),(8,W y),(7,W x),(3,.one (.ptr (some (.loc 2 0)))),(2,.one (.ptr (some (.loc 1 0)))),(1,.one (.ptr (some (.loc 0 0)))),(0,W x)] ⟨[some ⟨words x,t_api_Scalar,0,false⟩,some ⟨List.replicate 32 (Sc.int IntKind.u8 0),t_a32_uint8,0,false⟩,some ⟨bcs2 y,t_a32_uint8,0,false⟩],_⟩ rfl rfl ?_
 refine round_cut fun K1 hK1 hX1 _=>?_
 conv=>whnf
 refine .inl ⟨9,?_⟩
 conv=>whnf
 refine hK1 _ _ ?_
 clear hK1 hX1
 refine round_next [(9,.one (.int .i64 3)),(8,W y),(7,W x),(3,.one (.ptr (some (.loc 2 0)))),(2,.one (.ptr (some (.loc 1 0)))),(1,.one (.ptr (some (.loc 0 0)))),(0,W x)] ⟨[some ⟨words x,t_api_Scalar,0,false⟩,some ⟨List.replicate 32 (Sc.int IntKind.u8 0),t_a32_uint8,0,false⟩,some ⟨bcs3 y,t_a32_uint8,0,false⟩],_⟩ rfl rfl ?_
 refine round_cut fun K1 hK1 hX1 _=>?_
 conv=>whnf
 refine .inl ⟨9,?_⟩
 conv=>whnf
 refine hK1 _ _ ?_
 clear hK1 hX1
 refine round_next [(9,.one (.int .i64 4)),(8,W y),(7,W x),(3,.one (.ptr (some (.loc 2 0)))),(2,.one (.ptr (some (.loc 1 0)))),(1,.one (.ptr (some (.loc 0 0)))),(0,W x)] ⟨[some ⟨words x,t_api_Scalar,0,false⟩,some ⟨List.replicate 32 (Sc.int IntKind.u8 0),t_a32_uint8,0,false⟩,some ⟨bcs4 y,t_a32_uint8,0,false⟩],_⟩ rfl rfl ?_
 refine round_cut fun K1 hK1 hX1 _=>?_
 conv=>whnf
 refine hX1 _ _ _ ?_
 conv=>whnf
 refine hK _ _ ?_
 conv=>whnf
 intro c N2 _ _
 rfl

end Go.Hv

namespace Go.Hv
open Go.Ev

set_option maxRecDepth 100000 in
theorem scWords_fn {l0 l1 l2 l3:Int} (h0:InU l0) (h1:InU l1) (h2:InU l2) (h3:InU l3):Ev.Fn PG f_scalar_words [.agg (bcsL l0 l1 l2 l3)] (.agg (words (val l0 l1 l2 l3))):=by
 refine fn_startH (fun _=>none) h_scalar_words rfl (by kernel_rfl) (fun _=>by kernel_rfl) rfl (by kernel_rfl) fun A=>?_
 have hwd:=words_val h0 h1 h2 h3
 refine swp_cut fun K hK _ _=>?_
 conv=>whnf
 refine hK _ _ (swp_cut fun K hK _ _=>?_)
 conv=>whnf
 refine hK _ _ (swp_cut fun K hK _ _=>?_)
 conv=>whnf
 refine .inl ⟨5,round_cut fun K1 hK1 hX1 _=>?_⟩
 conv=>whnf
 refine .inl ⟨9,?_⟩
 conv=>whnf
 refine hK1 _ _ ?_
 clear hK1 hX1
 refine round_next [(6,.one (.int .i64 1)),(3,.one (.ptr (some (.loc 2 0)))),(2,.one (.ptr (some (.loc 1 0)))),(1,.one (.ptr (some (.loc 0 0)))),(0,.agg (bcsL l0 l1 l2 l3))] ⟨[some ⟨bcsL l0 l1 l2 l3,t_a32_uint8,0,false⟩,some ⟨[u 0,u 0,u 0,u 0],t_api_Scalar,0,false⟩,some ⟨[u (ow l0),u 0,u 0,u 0],t_api_Scalar,0,false⟩],M0.N⟩ rfl rfl ?_
 generalize hw0:ow l0=w0
 refine round_cut fun K1 hK1 hX1 _=>?_
 conv=>whnf
 refine .inl ⟨9,?_⟩
 conv=>whnf
 refine hK1 _ _ ?_
 clear hK1 hX1
 refine round_next [(6,.one (.int .i64 2)),(3,.one (.ptr (some (.loc 2 0)))),(2,.one (.ptr (some (.loc 1 0)))),(1,.one (.ptr (some (.loc 0 0)))),(0,.agg (bcsL l0 l1 l2 l3))] ⟨[some ⟨bcsL l0 l1 l2 l3,t_a32_uint8,0,false⟩,some ⟨[u 0,u 0,u 0,u 0],t_api_Scalar,0,false⟩,some ⟨[u w0,u (ow l1),u 0,u 0],t_api_Scalar,0,false⟩],M0.N⟩ rfl rfl ?_
 generalize hw1:ow l1=w1
 refine round_cut fun K1 hK1 hX1 _=>?_
 conv=>whnf
 refine .inl ⟨9,?_⟩
 conv=>whnf
 refine hK1 _ _ ?_
 clear hK1 hX1
 refine round_next [(6,.one (.int .i64 3)),(3,.one (.ptr (some (.loc 2 0)))),(2,.one (.ptr (some (.loc 1 0)))),(1,.one (.ptr (some (.loc 0 0)))),(0,.agg (bcsL l0 l1 l2 l3))] ⟨[some ⟨bcsL l0 l1 l2 l3,t_a32_uint8,0,false⟩,some ⟨[u 0,u 0,u 0,u 0],t_api_Scalar,0,false⟩,some ⟨[u w0,u w1,u (ow l2),u 0],t_api_Scalar,0,false⟩],M0.N⟩ rfl rfl ?_
 generalize hw2:ow l2=w2
 refine round_cut fun K1 hK1 hX1 _=>?_
 conv=>whnf
 refine .inl ⟨9,?_⟩
 conv=>whnf
 refine hK1 _ _ ?_
 clear hK1 hX1
 refine round_next [(6,.one (.int .i64 4)),(3,.one (.ptr (some (.loc 2 0)))),(2,.one (.ptr (some (.loc 1 0)))),(1,.one (.ptr (some (.loc 0 0)))),(0,.agg (bcsL l0 l1 l2 l3))] ⟨[some ⟨bcsL l0 l1 l2 l3,t_a32_uint8,0,false⟩,some ⟨[u 0,u 0,u 0,u 0],t_api_Scalar,0,false⟩,some ⟨[u w0,u w1,u w2,u (ow l3)],t_api_Scalar,0,false⟩],M0.N⟩ rfl rfl ?_
 generalize hw3:ow l3=w3
 refine round_cut fun K1 hK1 hX1 _=>?_
 rw [ow_eq h0] at hw0
 rw [ow_eq h1] at hw1
 rw [ow_eq h2] at hw2
 rw [ow_eq h3] at hw3
 subst hw0 hw1 hw2 hw3
 conv=>whnf
 refine hX1 _ _ _ ?_
 conv=>whnf
 refine hK _ _ ?_
 conv=>whnf
 intro c N2 _ _
 rw [hwd]
 rfl
end Go.Hv

namespace Go.Hv
open Go.Ev

theorem val_in {l0 l1 l2 l3:Int} (h0:InU l0) (h1:InU l1) (h2:InU l2) (h3:InU l3):InW (val l0 l1 l2 l3):=by unfold val; exact ⟨by omega,by omega⟩

theorem scReduce_fn {l0 l1 l2 l3:Int} (h0:InU l0) (h1:InU l1) (h2:InU l2) (h3:InU l3):Ev.Fn PG f_scalar_Reduce [.agg (bcsL l0 l1 l2 l3)] (.agg (words (val l0 l1 l2 l3%nn))):=by
 refine fn_startH (fun _=>none) h_scalar_Reduce rfl (by kernel_rfl) (fun _=>by kernel_rfl) rfl (by kernel_rfl) fun A=>?_
 have w:=scWords_fn h0 h1 h2 h3
 have n1:=scNorm_fn (val_in h0 h1 h2 h3)
 generalize val l0 l1 l2 l3=y at *
 refine swp_cut fun K hK _ _=>?_
 conv=>whnf
 refine hK _ _ ?_
 conv=>whnf
 refine ⟨_,w,rfl,?_⟩
 conv=>whnf
 refine ⟨_,n1,rfl,?_⟩
 conv=>whnf
 intro c N2 _ _
 rfl

def readN (y:Int):Int×Bool:=if y%nn=y then (y,true) else (0,false)

theorem scRead_fn {l0 l1 l2 l3:Int} (h0:InU l0) (h1:InU l1) (h2:InU l2) (h3:InU l3):Ev.Fn PG f_scalar_Read [.agg (bcsL l0 l1 l2 l3)] (.tup [.agg (words (readN (val l0 l1 l2 l3)).1),.one (.bool (readN (val l0 l1 l2 l3)).2)]):=by
 refine fn_startH (fun _=>none) h_scalar_Read rfl (by kernel_rfl) (fun _=>by kernel_rfl) rfl (by kernel_rfl) fun A=>?_
 have w:=scWords_fn h0 h1 h2 h3
 have hy:=val_in h0 h1 h2 h3
 have n1:=scNorm_fn hy
 generalize val l0 l1 l2 l3=y at *
 have hw:=weq (show InW (y%nn) from ⟨by unfold nn; omega,by unfold nn; omega⟩) hy
 refine swp_cut fun K hK hR _=>?_
 conv=>whnf
 refine hK _ _ (swp_cut fun K hK hR _=>?_)
 conv=>whnf
 refine ⟨_,w,rfl,?_⟩
 conv=>whnf
 refine hK _ _ (swp_cut fun K hK hR _=>?_)
 conv=>whnf
 refine ⟨_,n1,rfl,?_⟩
 conv=>whnf
 rw [hw]
 by_cases hr:y%nn=y
 ·have hd:decide (y%nn=y)=true:=decide_eq_true hr
  have hp:readN y=(y,true):=if_pos hr
  rw [hd]
  conv=>whnf
  refine hK _ _ ?_
  conv=>whnf
  intro c N2 _ _
  rw [hp]
  rfl
 ·have hd:decide (y%nn=y)=false:=decide_eq_false hr
  have hp:readN y=(0,false):=if_neg hr
  rw [hd]
  conv=>whnf
  refine hR _ _ ?_
  conv=>whnf
  intro c N2 _ _
  rw [hp]
  rfl

end Go.Hv

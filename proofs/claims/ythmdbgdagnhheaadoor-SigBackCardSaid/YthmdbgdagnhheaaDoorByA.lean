import Derived.Test.YthmdbgdagnhheaaDoorByB
namespace Go.Hv
open Go.Ev

set_option maxRecDepth 100000 in
theorem feBytes_fn {x : Int} (hx : InW x) : Ev.Fn PG f_fe_Bytes [W x] (.agg (bcs4 (x % pp))) := by
 refine fn_startH (fun _ => none) h_fe_Bytes rfl (by kernel_rfl) (fun _ => by kernel_rfl) rfl rfl fun A => ?_
 have n1 := norm_fn hx
 generalize x % pp = y at *
 refine swp_cut fun K hK _ _ => ?_
 conv => whnf
 refine hK _ _ (swp_cut fun K hK _ _ => ?_)
 conv => whnf
 refine hK _ _ (swp_cut fun K hK _ hR0 => ?_)
 conv => whnf
 refine ⟨_, n1, rfl, ?_⟩
 conv => whnf
 refine .inl ⟨5, round_cut fun K1 hK1 hX1 _ => ?_⟩
 conv => whnf
 refine .inl ⟨9, ?_⟩
 conv => whnf
 refine hK1 _ _ ?_
 clear hK1 hX1
 refine round_next [(9, .one (.int .i64 1)), (8, W y), (7, W x), (3, .one (.ptr (some (.loc 2 0)))), (2, .one (.ptr (some (.loc 1 0)))), (1, .one (.ptr (some (.loc 0 0)))), (0, W x)] ⟨[some ⟨words x, t_api_Fe, 0, false⟩, some ⟨List.replicate 32 (Sc.int IntKind.u8 0), t_a32_uint8, 0, false⟩, some ⟨bcs1 y, t_a32_uint8, 0, false⟩], _⟩ rfl rfl ?_
 refine round_cut fun K1 hK1 hX1 _ => ?_
 conv => whnf
 refine .inl ⟨9, ?_⟩
 conv => whnf
 refine hK1 _ _ ?_
 clear hK1 hX1
 refine round_next [(9, .one (.int .i64 2)), (8, W y), (7, W x), (3, .one (.ptr (some (.loc 2 0)))), (2, .one (.ptr (some (.loc 1 0)))), (1, .one (.ptr (some (.loc 0 0)))), (0, W x)] ⟨[some ⟨words x, t_api_Fe, 0, false⟩, some ⟨List.replicate 32 (Sc.int IntKind.u8 0), t_a32_uint8, 0, false⟩, some ⟨bcs2 y, t_a32_uint8, 0, false⟩], _⟩ rfl rfl ?_
 refine round_cut fun K1 hK1 hX1 _ => ?_
 conv => whnf
 refine .inl ⟨9, ?_⟩
 conv => whnf
 refine hK1 _ _ ?_
 clear hK1 hX1
 refine round_next [(9, .one (.int .i64 3)), (8, W y), (7, W x), (3, .one (.ptr (some (.loc 2 0)))), (2, .one (.ptr (some (.loc 1 0)))), (1, .one (.ptr (some (.loc 0 0)))), (0, W x)] ⟨[some ⟨words x, t_api_Fe, 0, false⟩, some ⟨List.replicate 32 (Sc.int IntKind.u8 0), t_a32_uint8, 0, false⟩, some ⟨bcs3 y, t_a32_uint8, 0, false⟩], _⟩ rfl rfl ?_
 refine round_cut fun K1 hK1 hX1 _ => ?_
 conv => whnf
 refine .inl ⟨9, ?_⟩
 conv => whnf
 refine hK1 _ _ ?_
 clear hK1 hX1
 refine round_next [(9, .one (.int .i64 4)), (8, W y), (7, W x), (3, .one (.ptr (some (.loc 2 0)))), (2, .one (.ptr (some (.loc 1 0)))), (1, .one (.ptr (some (.loc 0 0)))), (0, W x)] ⟨[some ⟨words x, t_api_Fe, 0, false⟩, some ⟨List.replicate 32 (Sc.int IntKind.u8 0), t_a32_uint8, 0, false⟩, some ⟨bcs4 y, t_a32_uint8, 0, false⟩], _⟩ rfl rfl ?_
 refine round_cut fun K1 hK1 hX1 _ => ?_
 conv => whnf
 refine hX1 _ _ _ ?_
 conv => whnf
 refine hK _ _ ?_
 conv => whnf
 intro c N2 _ _
 rfl

end Go.Hv

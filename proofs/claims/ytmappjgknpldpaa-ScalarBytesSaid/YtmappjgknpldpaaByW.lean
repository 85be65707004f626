import Derived.Test.YtmappjgknpldpaaByB
import Derived.Test.YtmappjgknpldpaaSc1
namespace Go.Hv
open Go.Ev

set_option maxRecDepth 100000 in
theorem scWords_fn {l0 l1 l2 l3 : Int} (h0 : InU l0) (h1 : InU l1) (h2 : InU l2) (h3 : InU l3) : Ev.Fn PG f_scalar_words [.agg (bcsL l0 l1 l2 l3)] (.agg (words (val l0 l1 l2 l3))) := by
  refine fn_startH (fun _ => none) h_scalar_words rfl (by kernel_rfl) (fun _ => by kernel_rfl) rfl (by kernel_rfl) fun A => ?_
  have hwd := words_val h0 h1 h2 h3
  refine swp_cut fun K hK _ _ => ?_
  conv => whnf
  refine hK _ _ (swp_cut fun K hK _ _ => ?_)
  conv => whnf
  refine hK _ _ (swp_cut fun K hK _ _ => ?_)
  conv => whnf
  refine .inl ⟨5, round_cut fun K1 hK1 hX1 _ => ?_⟩
  conv => whnf
  refine .inl ⟨9, ?_⟩
  conv => whnf
  refine hK1 _ _ ?_
  clear hK1 hX1
  refine round_next [(6, .one (.int .i64 1)), (3, .one (.ptr (some (.loc 2 0)))), (2, .one (.ptr (some (.loc 1 0)))), (1, .one (.ptr (some (.loc 0 0)))), (0, .agg (bcsL l0 l1 l2 l3))] ⟨[some ⟨bcsL l0 l1 l2 l3, t_a32_uint8, 0, false⟩, some ⟨[u 0, u 0, u 0, u 0], t_api_Scalar, 0, false⟩, some ⟨[u (ow l0), u 0, u 0, u 0], t_api_Scalar, 0, false⟩], M0.N⟩ rfl rfl ?_
  generalize hw0 : ow l0 = w0
  refine round_cut fun K1 hK1 hX1 _ => ?_
  conv => whnf
  refine .inl ⟨9, ?_⟩
  conv => whnf
  refine hK1 _ _ ?_
  clear hK1 hX1
  refine round_next [(6, .one (.int .i64 2)), (3, .one (.ptr (some (.loc 2 0)))), (2, .one (.ptr (some (.loc 1 0)))), (1, .one (.ptr (some (.loc 0 0)))), (0, .agg (bcsL l0 l1 l2 l3))] ⟨[some ⟨bcsL l0 l1 l2 l3, t_a32_uint8, 0, false⟩, some ⟨[u 0, u 0, u 0, u 0], t_api_Scalar, 0, false⟩, some ⟨[u w0, u (ow l1), u 0, u 0], t_api_Scalar, 0, false⟩], M0.N⟩ rfl rfl ?_
  generalize hw1 : ow l1 = w1
  refine round_cut fun K1 hK1 hX1 _ => ?_
  conv => whnf
  refine .inl ⟨9, ?_⟩
  conv => whnf
  refine hK1 _ _ ?_
  clear hK1 hX1
  refine round_next [(6, .one (.int .i64 3)), (3, .one (.ptr (some (.loc 2 0)))), (2, .one (.ptr (some (.loc 1 0)))), (1, .one (.ptr (some (.loc 0 0)))), (0, .agg (bcsL l0 l1 l2 l3))] ⟨[some ⟨bcsL l0 l1 l2 l3, t_a32_uint8, 0, false⟩, some ⟨[u 0, u 0, u 0, u 0], t_api_Scalar, 0, false⟩, some ⟨[u w0, u w1, u (ow l2), u 0], t_api_Scalar, 0, false⟩], M0.N⟩ rfl rfl ?_
  generalize hw2 : ow l2 = w2
  refine round_cut fun K1 hK1 hX1 _ => ?_
  conv => whnf
  refine .inl ⟨9, ?_⟩
  conv => whnf
  refine hK1 _ _ ?_
  clear hK1 hX1
  refine round_next [(6, .one (.int .i64 4)), (3, .one (.ptr (some (.loc 2 0)))), (2, .one (.ptr (some (.loc 1 0)))), (1, .one (.ptr (some (.loc 0 0)))), (0, .agg (bcsL l0 l1 l2 l3))] ⟨[some ⟨bcsL l0 l1 l2 l3, t_a32_uint8, 0, false⟩, some ⟨[u 0, u 0, u 0, u 0], t_api_Scalar, 0, false⟩, some ⟨[u w0, u w1, u w2, u (ow l3)], t_api_Scalar, 0, false⟩], M0.N⟩ rfl rfl ?_
  generalize hw3 : ow l3 = w3
  refine round_cut fun K1 hK1 hX1 _ => ?_
  rw [ow_eq h0] at hw0
  rw [ow_eq h1] at hw1
  rw [ow_eq h2] at hw2
  rw [ow_eq h3] at hw3
  subst hw0 hw1 hw2 hw3
  conv => whnf
  refine hX1 _ _ _ ?_
  conv => whnf
  refine hK _ _ ?_
  conv => whnf
  intro c N2 _ _
  rw [hwd]
  rfl
end Go.Hv

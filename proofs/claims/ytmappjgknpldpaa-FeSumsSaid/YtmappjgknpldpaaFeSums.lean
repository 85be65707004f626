import Derived.Test.YtmappjgknpldpaaRf4
import Derived.Test.YtmappjgknpldpaaAl3
import Derived.Test.YtmappjgknpldpaaWq
namespace Go.Ev

theorem mdP_tv : mdP.tv = .agg [u 18446744069414583343, u 18446744073709551615, u 18446744073709551615, u 18446744073709551615, u 4294968273, u 0, u 0] := rfl

theorem feTimes_fn {x y : Int} (hx : InW x) (hy : InW y) : Fn PG f_law03_FeTimes [W x, W y] (.one (.bool true)) := by
  refine fn_go h_law03_FeTimes rfl (by kernel_rfl) (fun _ => by kernel_rfl) rfl rfl fun W0 => ?_
  have m1 := feMul_fn hx hy
  have m2 := refMul_fn mdP_ok hx hy
  rw [mdP_M] at m2
  conv => whnf
  refine ⟨_, m1.2 _ _, rfl, ?_⟩
  conv => whnf
  refine ⟨_, refP_fn.2 _ _, rfl, ?_⟩
  conv => whnf
  refine ⟨_, (refOf_fn x).2 _ _, rfl, ?_⟩
  conv => whnf
  refine ⟨_, (refOf_fn y).2 _ _, rfl, ?_⟩
  conv => whnf
  refine ⟨_, m2.2 _ _, rfl, ?_⟩
  conv => whnf
  refine ⟨_, (refFe_fn _).2 _ _, rfl, ?_⟩
  conv => whnf
  rw [weq_self]
  conv => whnf
  refine ⟨_, alive3_fn.2 _ _, rfl, ?_⟩
  conv => whnf
  rfl

theorem feSums_fn {x y : Int} (hx : InW x) (hy : InW y) : Fn PG f_law03_FeSums [W x, W y] (.one (.bool true)) := by
  refine fn_go h_law03_FeSums rfl (by kernel_rfl) (fun _ => by kernel_rfl) rfl rfl fun W0 => ?_
  have n1 := norm_fn hx
  have n2 := refNorm_fn mdP_ok hx
  have a1 := feAdd_fn hx hy
  have a2 := refAdd_fn mdP_ok hx hy
  have g1 := feNeg_fn hx
  have g2 := refNeg_fn mdP_ok hx
  have s1 := feSub_fn hx hy
  have s2 := refSub_fn mdP_ok hx hy
  rw [mdP_M] at n2 a2 g2 s2
  refine swp_cut fun K hK _ _ => ?_
  conv => whnf
  refine hK _ _ (swp_cut fun K hK _ _ => ?_)
  conv => whnf
  refine ⟨_, refP_fn.2 _ _, rfl, ?_⟩
  conv => whnf
  refine hK _ _ (swp_cut fun K hK _ _ => ?_)
  conv => whnf
  refine ⟨_, (refOf_fn x).2 _ _, rfl, ?_⟩
  conv => whnf
  refine hK _ _ (swp_cut fun K hK _ _ => ?_)
  conv => whnf
  refine ⟨_, (refOf_fn y).2 _ _, rfl, ?_⟩
  conv => whnf
  refine hK _ _ (swp_cut fun K hK _ _ => ?_)
  conv => whnf
  refine ⟨_, n1.2 _ _, rfl, ?_⟩
  conv => whnf
  refine ⟨_, n2.2 _ _, rfl, ?_⟩
  conv => whnf
  refine ⟨_, (refFe_fn _).2 _ _, rfl, ?_⟩
  conv => whnf
  rw [weq_self]
  conv => whnf
  refine ⟨_, a1.2 _ _, rfl, ?_⟩
  conv => whnf
  refine ⟨_, a2.2 _ _, rfl, ?_⟩
  conv => whnf
  refine ⟨_, (refFe_fn _).2 _ _, rfl, ?_⟩
  conv => whnf
  rw [weq_self]
  conv => whnf
  refine ⟨_, g1.2 _ _, rfl, ?_⟩
  conv => whnf
  refine ⟨_, g2.2 _ _, rfl, ?_⟩
  conv => whnf
  refine ⟨_, (refFe_fn _).2 _ _, rfl, ?_⟩
  conv => whnf
  rw [weq_self]
  conv => whnf
  refine ⟨_, s1.2 _ _, rfl, ?_⟩
  conv => whnf
  refine ⟨_, s2.2 _ _, rfl, ?_⟩
  conv => whnf
  refine ⟨_, (refFe_fn _).2 _ _, rfl, ?_⟩
  conv => whnf
  rw [weq_self]
  conv => whnf
  refine ⟨_, alive3_fn.2 _ _, rfl, ?_⟩
  conv => whnf
  refine hK _ _ ?_
  conv => whnf
  rfl

end Go.Ev

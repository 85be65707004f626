import Derived.Test.YtmappjgknpldpaaFer
import Derived.Test.YtmappjgknpldpaaRfA
import Derived.Test.YtmappjgknpldpaaSc6
import Derived.Test.YtmappjgknpldpaaAl4
namespace Go.Ev

theorem zeroWs : InW 0 := ⟨by omega, by omega⟩

theorem lawScInv_fn {x : Int} (hx : InW x) : Fn PG f_law04_ScalarInv [W x] (.one (.bool true)) := by
  refine fn_go h_law04_ScalarInv rfl (by kernel_rfl) (fun _ => by kernel_rfl) rfl rfl fun W0 => ?_
  have i1 := scInv_fn hx
  have i2 := refInv_fn mdN_ok hx
  rw [mdN_M] at i2
  generalize hi : x ^ (nn - 2).toNat % nn = i at i1 i2
  have hiw : InW i := by rw [← hi]; exact inN _
  have n1 := scNorm_fn hx
  have o0 := scOf_fn (n := 0) ⟨by omega, by omega⟩
  have o1 := scOf_fn (n := 1) ⟨by omega, by omega⟩
  have m1 := scMul_fn hx hiw
  refine swp_cut fun K hK _ _ => ?_
  conv => whnf
  refine hK _ _ (swp_cut fun K hK _ _ => ?_)
  conv => whnf
  refine ⟨_, i1.2 _ _, rfl, ?_⟩
  conv => whnf
  refine hK _ _ (swp_cut fun K hK _ _ => ?_)
  conv => whnf
  refine ⟨_, refN_fn.2 _ _, rfl, ?_⟩
  conv => whnf
  refine ⟨_, (refOfScalar_fn x).2 _ _, rfl, ?_⟩
  conv => whnf
  refine ⟨_, i2.2 _ _, rfl, ?_⟩
  conv => whnf
  refine ⟨_, (refScalar_fn _).2 _ _, rfl, ?_⟩
  conv => whnf
  rw [weq_self]
  conv => whnf
  refine ⟨_, Hv.alive4_fn.2 _ _, rfl, ?_⟩
  conv => whnf
  refine hK _ _ (swp_cut fun K hK r _ => ?_)
  conv => whnf
  refine ⟨_, n1.2 _ _, rfl, ?_⟩
  conv => whnf
  refine ⟨_, o0.2 _ _, rfl, ?_⟩
  conv => whnf
  rw [weq (inN _) zeroWs]
  split
  · rename_i h
    have h := of_decide_eq_true h
    have h0 : i = 0 := by rw [← hi]; exact nn_inv0 h
    subst h0
    conv => whnf
    refine ⟨_, o0.2 _ _, rfl, ?_⟩
    conv => whnf
    refine r _ _ ?_
    conv => whnf
    rfl
  · rename_i h
    have h := of_decide_eq_false h
    have h1 : x * i % nn = 1 := by rw [← hi]; exact nn_inv h
    rw [h1] at m1
    conv => whnf
    refine hK _ _ (swp_cut fun K hK r _ => ?_)
    conv => whnf
    refine ⟨_, m1.2 _ _, rfl, ?_⟩
    conv => whnf
    refine ⟨_, o1.2 _ _, rfl, ?_⟩
    conv => whnf
    refine hK _ _ ?_
    conv => whnf
    rfl

end Go.Ev

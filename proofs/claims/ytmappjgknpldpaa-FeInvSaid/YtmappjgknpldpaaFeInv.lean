import Derived.Test.YtmappjgknpldpaaFer
import Derived.Test.YtmappjgknpldpaaRf6
import Derived.Test.YtmappjgknpldpaaAl3
namespace Go.Ev

theorem zeroW : InW 0 := ⟨by omega, by omega⟩

theorem lawFeInv_fn {x : Int} (hx : InW x) : Fn PG f_law03_FeInv [W x] (.one (.bool true)) := by
  refine fn_go h_law03_FeInv rfl (by kernel_rfl) (fun _ => by kernel_rfl) rfl rfl fun W0 => ?_
  have i1 := feInv_fn hx
  have i2 := refInv_fn mdP_ok hx
  rw [mdP_M] at i2
  generalize hi : x ^ (pp - 2).toNat % pp = i at i1 i2
  have hiw : InW i := by rw [← hi]; exact inP _
  have n1 := norm_fn hx
  have o0 := feOf_fn (n := 0) ⟨by omega, by omega⟩
  have o1 := feOf_fn (n := 1) ⟨by omega, by omega⟩
  have m1 := feMul_fn hx hiw
  refine swp_cut fun K hK _ _ => ?_
  conv => whnf
  refine hK _ _ (swp_cut fun K hK _ _ => ?_)
  conv => whnf
  refine ⟨_, i1.2 _ _, rfl, ?_⟩
  conv => whnf
  refine hK _ _ (swp_cut fun K hK _ _ => ?_)
  conv => whnf
  refine ⟨_, refP_fn.2 _ _, rfl, ?_⟩
  conv => whnf
  refine ⟨_, (refOf_fn x).2 _ _, rfl, ?_⟩
  conv => whnf
  refine ⟨_, i2.2 _ _, rfl, ?_⟩
  conv => whnf
  refine ⟨_, (refFe_fn _).2 _ _, rfl, ?_⟩
  conv => whnf
  rw [weq_self]
  conv => whnf
  refine ⟨_, alive3_fn.2 _ _, rfl, ?_⟩
  conv => whnf
  refine hK _ _ (swp_cut fun K hK r _ => ?_)
  conv => whnf
  refine ⟨_, n1.2 _ _, rfl, ?_⟩
  conv => whnf
  refine ⟨_, o0.2 _ _, rfl, ?_⟩
  conv => whnf
  rw [weq (inP _) zeroW]
  split
  · rename_i h
    have h := of_decide_eq_true h
    have h0 : i = 0 := by rw [← hi]; exact pp_inv0 h
    subst h0
    conv => whnf
    refine ⟨_, o0.2 _ _, rfl, ?_⟩
    conv => whnf
    refine r _ _ ?_
    conv => whnf
    rfl
  · rename_i h
    have h := of_decide_eq_false h
    have h1 : x * i % pp = 1 := by rw [← hi]; exact pp_inv h
    rw [h1] at m1
    conv => whnf
    refine hK _ _ (swp_cut fun K hK r _ => ?_)
    conv => whnf
    refine ⟨_, m1.2 _ _, rfl, ?_⟩
    conv => whnf
    refine ⟨_, o1.2 _ _, rfl, ?_⟩
    conv => whnf
    refine hK _ _ ?_
    conv => whnf
    rfl

end Go.Ev

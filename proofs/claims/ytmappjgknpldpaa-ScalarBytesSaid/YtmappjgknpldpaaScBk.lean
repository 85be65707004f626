import Derived.Test.YtmappjgknpldpaaOpB
import Derived.Test.YtmappjgknpldpaaByR
import Derived.Test.YtmappjgknpldpaaAl4
namespace Go.Hv
open Go.Ev

theorem bcs_val (y : Int) (hy : InW y) : val (y % 18446744073709551616) (y / 18446744073709551616 % 18446744073709551616) (y / 340282366920938463463374607431768211456 % 18446744073709551616) (y / 6277101735386680763835789423207666416102355444464034512896 % 18446744073709551616) = y := by unfold val; omega

theorem scRead_bcs {y : Int} (hy : InW y) : Ev.Fn PG f_scalar_Read [.agg (bcs4 y)] (.tup [.agg (words (readN y).1), .one (.bool (readN y).2)]) := by
  have h := scRead_fn (l0 := y % 18446744073709551616) (l1 := y / 18446744073709551616 % 18446744073709551616) (l2 := y / 340282366920938463463374607431768211456 % 18446744073709551616) (l3 := y / 6277101735386680763835789423207666416102355444464034512896 % 18446744073709551616) ⟨by omega, by omega⟩ ⟨by omega, by omega⟩ ⟨by omega, by omega⟩ ⟨by omega, by omega⟩
  rw [bcs_val y hy] at h
  exact h

theorem scReduce_bcs {y : Int} (hy : InW y) : Ev.Fn PG f_scalar_Reduce [.agg (bcs4 y)] (.agg (words (y % nn))) := by
  have h := scReduce_fn (l0 := y % 18446744073709551616) (l1 := y / 18446744073709551616 % 18446744073709551616) (l2 := y / 340282366920938463463374607431768211456 % 18446744073709551616) (l3 := y / 6277101735386680763835789423207666416102355444464034512896 % 18446744073709551616) ⟨by omega, by omega⟩ ⟨by omega, by omega⟩ ⟨by omega, by omega⟩ ⟨by omega, by omega⟩
  rw [bcs_val y hy] at h
  exact h

set_option maxRecDepth 100000 in
theorem lawScBack_fn {x y : Int} (hx : InW x) (hy : InW y) : Ev.Fn PG f_law04_ScalarBack [W x, .agg (bcs4 y)] (.one (.bool true)) := by
  refine fn_startH (fun _ => none) h_law04_ScalarBack rfl (by kernel_rfl) (fun _ => by kernel_rfl) rfl rfl fun A => ?_
  have hxp : InW (x % nn) := ⟨by unfold nn; omega, by unfold nn; omega⟩
  have b1 := scBytes_fn hx
  have r1 := scRead_bcs hxp
  have hp : readN (x % nn) = (x % nn, true) := if_pos (by unfold nn; omega)
  rw [hp] at r1
  have r2 := scRead_bcs hy
  have a4 := alive4_fn
  refine swp_cut fun K hK _ _ => ?_
  conv => whnf
  refine hK _ _ (swp_cut fun K hK _ _ => ?_)
  conv => whnf
  refine ⟨_, b1, rfl, ?_⟩
  conv => whnf
  refine ⟨_, r1, rfl, ?_⟩
  conv => whnf
  refine hK _ _ (swp_cut fun K hK _ _ => ?_)
  conv => whnf
  refine ⟨_, r2, rfl, ?_⟩
  conv => whnf
  have n1 := scNorm_fn hx
  by_cases hr : y % nn = y
  · have hq : readN y = (y, true) := if_pos hr
    have b2 := scBytes_fn hy
    have d2 := scReduce_bcs hy
    rw [hr] at b2 d2
    rw [hq]
    refine hK _ _ ?_
    clear hK r1 r2 b1
    refine swp_cut fun K2 hK2 _ _ => ?_
    repeat (refine aops_step fun T S hT hS => ?_; (conv => whnf); (try rw [weq_self]); (try simp only [beq_self_eq_true, Bool.and_true, Bool.and_self]); first | refine hT _ _ ?_ | refine hS ?_ | (refine ⟨_, a4, rfl, ?_⟩; refine hT _ _ ?_) | (refine ⟨_, n1, rfl, ?_⟩; refine hT _ _ ?_) | (refine ⟨_, b2, rfl, ?_⟩; refine hT _ _ ?_) | (refine ⟨_, d2, rfl, ?_⟩; refine hT _ _ ?_))
    refine aops_end ?_
    refine hK2 _ _ ?_
    conv => whnf
    try simp only [beq_self_eq_true, Bool.and_true, Bool.and_self]
    intro c N2 _ _
    rfl
  · have hq : readN y = (0, false) := if_neg hr
    rw [hq]
    refine hK _ _ ?_
    clear hK r1 r2 b1
    refine swp_cut fun K2 hK2 _ _ => ?_
    repeat (refine aops_step fun T S hT hS => ?_; (conv => whnf); (try rw [weq_self]); first | refine hT _ _ ?_ | refine hS ?_ | (refine ⟨_, a4, rfl, ?_⟩; refine hT _ _ ?_) | (refine ⟨_, n1, rfl, ?_⟩; refine hT _ _ ?_))
    refine aops_end ?_
    refine hK2 _ _ ?_
    conv => whnf
    intro c N2 _ _
    rfl

end Go.Hv

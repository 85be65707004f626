import Derived.Test.YtmappjgknpldpaaByM
import Derived.Test.YtmappjgknpldpaaAl3
namespace Go.Hv
open Go.Ev

theorem bcs4_eq (y : Int) : bcs4 y = bcsL (y % 18446744073709551616) (y / 18446744073709551616 % 18446744073709551616) (y / 340282366920938463463374607431768211456 % 18446744073709551616) (y / 6277101735386680763835789423207666416102355444464034512896 % 18446744073709551616) := rfl

theorem feRead_bcs {y : Int} (hy : InW y) : Ev.Fn PG f_fe_Read [.agg (bcs4 y)] (.tup [.agg (words (readP y).1), .one (.bool (readP y).2)]) := by
  have h := feRead_fn (l0 := y % 18446744073709551616) (l1 := y / 18446744073709551616 % 18446744073709551616) (l2 := y / 340282366920938463463374607431768211456 % 18446744073709551616) (l3 := y / 6277101735386680763835789423207666416102355444464034512896 % 18446744073709551616) ⟨by omega, by omega⟩ ⟨by omega, by omega⟩ ⟨by omega, by omega⟩ ⟨by omega, by omega⟩
  have e : val (y % 18446744073709551616) (y / 18446744073709551616 % 18446744073709551616) (y / 340282366920938463463374607431768211456 % 18446744073709551616) (y / 6277101735386680763835789423207666416102355444464034512896 % 18446744073709551616) = y := by unfold val; omega
  rw [e] at h
  exact h

theorem bcsL_val {l0 l1 l2 l3 : Int} (h0 : InU l0) (h1 : InU l1) (h2 : InU l2) (h3 : InU l3) : bcsL l0 l1 l2 l3 = bcs4 (val l0 l1 l2 l3) := by
  have e0 : val l0 l1 l2 l3 % 18446744073709551616 = l0 := by unfold val; omega
  have e1 : val l0 l1 l2 l3 / 18446744073709551616 % 18446744073709551616 = l1 := by unfold val; omega
  have e2 : val l0 l1 l2 l3 / 340282366920938463463374607431768211456 % 18446744073709551616 = l2 := by unfold val; omega
  have e3 : val l0 l1 l2 l3 / 6277101735386680763835789423207666416102355444464034512896 % 18446744073709551616 = l3 := by unfold val; omega
  rw [bcs4_eq, e0, e1, e2, e3]

theorem lawFeBack_fn {x y : Int} (hx : InW x) (hy : InW y) : Ev.Fn PG f_law03_FeBack [W x, .agg (bcs4 y)] (.one (.bool true)) := by
  refine fn_startH (fun _ => none) h_law03_FeBack rfl (by kernel_rfl) (fun _ => by kernel_rfl) rfl rfl fun A => ?_
  have hxp : InW (x % pp) := ⟨by unfold pp; omega, by unfold pp; omega⟩
  have b1 := feBytes_fn hx
  have r1 := feRead_bcs hxp
  have hp : readP (x % pp) = (x % pp, true) := if_pos (by unfold pp; omega)
  rw [hp] at r1
  have r2 := feRead_bcs hy
  refine swp_cut fun K hK _ _ => ?_
  conv => whnf
  refine hK _ _ (swp_cut fun K hK _ _ => ?_)
  conv => whnf
  refine ⟨_, b1, rfl, ?_⟩
  conv => whnf
  refine ⟨_, r1, rfl, ?_⟩
  conv => whnf
  refine hK _ _ (swp_cut fun K hK _ _ => ?_)
  conv => whnf
  refine ⟨_, r2, rfl, ?_⟩
  conv => whnf
  have n1 := norm_fn hx
  by_cases hr : y % pp = y
  · have hq : readP y = (y, true) := if_pos hr
    have b2 := feBytes_fn hy
    rw [hr] at b2
    rw [hq]
    refine hK _ _ ?_
    clear hK r1 r2 b1
    refine swp_cut fun K2 hK2 _ _ => ?_
    repeat (refine aops_step fun T S hT hS => ?_; (conv => whnf); (try rw [weq_self]); first | refine hT _ _ ?_ | refine hS ?_)
    refine aops_step fun T S hT hS => ?_
    conv => whnf
    refine ⟨_, alive3_fn, rfl, ?_⟩
    refine hT _ _ ?_
    repeat (refine aops_step fun T S hT hS => ?_; (conv => whnf); (try rw [weq_self]); first | refine hT _ _ ?_ | refine hS ?_)
    refine aops_step fun T S hT hS => ?_
    conv => whnf
    refine ⟨_, n1, rfl, ?_⟩
    refine hT _ _ ?_
    repeat (refine aops_step fun T S hT hS => ?_; (conv => whnf); (try rw [weq_self]); first | refine hT _ _ ?_ | refine hS ?_)
    refine aops_step fun T S hT hS => ?_
    conv => whnf
    refine ⟨_, b2, rfl, ?_⟩
    refine hT _ _ ?_
    repeat (refine aops_step fun T S hT hS => ?_; (conv => whnf); (try rw [weq_self]); first | refine hT _ _ ?_ | refine hS ?_)
    repeat (refine aops_step fun T S hT hS => ?_; (conv => whnf); (try rw [weq_self]); (try simp only [beq_self_eq_true, Bool.and_true, Bool.and_self]); first | refine hT _ _ ?_ | refine hS ?_)
    refine aops_end ?_
    refine hK2 _ _ ?_
    conv => whnf
    try simp only [beq_self_eq_true, Bool.and_true, Bool.and_self]
    intro c N2 _ _
    rfl
  · have hq : readP y = (0, false) := if_neg hr
    rw [hq]
    refine hK _ _ ?_
    clear hK r1 r2 b1
    refine swp_cut fun K2 hK2 _ _ => ?_
    repeat (refine aops_step fun T S hT hS => ?_; (conv => whnf); (try rw [weq_self]); first | refine hT _ _ ?_ | refine hS ?_)
    refine aops_step fun T S hT hS => ?_
    conv => whnf
    refine ⟨_, alive3_fn, rfl, ?_⟩
    refine hT _ _ ?_
    repeat (refine aops_step fun T S hT hS => ?_; (conv => whnf); (try rw [weq_self]); first | refine hT _ _ ?_ | refine hS ?_)
    refine aops_step fun T S hT hS => ?_
    conv => whnf
    refine ⟨_, n1, rfl, ?_⟩
    refine hT _ _ ?_
    repeat (refine aops_step fun T S hT hS => ?_; (conv => whnf); (try rw [weq_self]); first | refine hT _ _ ?_ | refine hS ?_)
    refine aops_end ?_
    refine hK2 _ _ ?_
    conv => whnf
    intro c N2 _ _
    rfl

end Go.Hv

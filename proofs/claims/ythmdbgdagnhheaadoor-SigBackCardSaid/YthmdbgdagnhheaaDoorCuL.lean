import Derived.Test.YthmdbgdagnhheaaDoorCuA
import Derived.Test.YthmdbgdagnhheaaDoorBy4
namespace Go.Hv
open Go.Ev Go.Ec

def liftR (x : Int) : Int × Bool :=
 match decide (x % pp = x) with
 | true => sqrtP (vK (toK x * toK x * toK x + 7))
 | false => (0, false)

def liftV (x : Int) : TV :=
 match (liftR x).2 with
 | true => .tup [.agg (ptC x (liftR x).1 false), .one (.bool true)]
 | false => .tup [.agg (ptC 0 0 true), .one (.bool false)]

theorem liftV_closed (x : Int) : (liftV x).closed 0 = true := by
 unfold liftV
 split <;> rfl

theorem sqrtP_lt' (x : Int) : InW (sqrtP x).1 := by
 unfold sqrtP
 split
 ·split
  ·exact inQ _
  ·unfold rootP; exact inQ _
 ·exact ⟨by omega, by omega⟩

set_option maxHeartbeats 1000000 in
set_option maxRecDepth 100000 in
theorem cLift_fn {l0 l1 l2 l3 : Int} (h0 : InU l0) (h1 : InU l1) (h2 : InU l2) (h3 : InU l3) : Ev.Fn PG f_curve_Lift [.agg (bcsL l0 l1 l2 l3)] (liftV (val l0 l1 l2 l3)) := by
 refine fn_startH (fun _ => none) h_curve_Lift rfl (by kernel_rfl) (fun _ => by kernel_rfl) rfl (liftV_closed _) fun A => ?_
 have hx : InW (val l0 l1 l2 l3) := by unfold val; exact ⟨by omega, by omega⟩
 have c1 := feRead_fn h0 h1 h2 h3
 have c0 := zero_fn
 generalize val l0 l1 l2 l3 = x at *
 by_cases hr : x % pp = x
 ·have hq : readP x = (x, true) := if_pos hr
  rw [hq] at c1
  obtain ⟨z, ez, iz, c2⟩ := cube_fn hx
  have c3 := feSqrt_fn iz
  have hl : liftR x = sqrtP z := by unfold liftR; rw [decide_eq_true hr, ez]
  unfold liftV
  rw [hl]
  generalize sqrtP z = rr at *
  obtain ⟨r, ok⟩ := rr
  simp only at *
  refine swp_cut fun K hK hR _ => ?_
  conv => whnf
  refine hK _ _ ?_
  clear hK hR
  refine swp_cut fun K hK hR _ => ?_
  conv => whnf
  refine ⟨_, c1, rfl, ?_⟩
  conv => whnf
  refine hK _ _ ?_
  clear hK hR
  refine swp_cut fun K hK hR _ => ?_
  conv => whnf
  refine ⟨_, c2, rfl, ?_⟩
  conv => whnf
  refine ⟨_, c3, rfl, ?_⟩
  conv => whnf
  refine hK _ _ ?_
  clear hK hR
  refine swp_cut fun K1 hK1 hR1 _ => swp_cut fun K hK hR _ => ?_
  cases ok with
  | true =>
   repeat (refine aops_step fun T S hT hS => ?_; (conv => whnf); first | refine hT _ _ ?_ | refine hS ?_)
   refine aops_end ?_
   refine hK _ _ ?_
   conv => whnf
   refine hK1 _ _ ?_
   clear hK1 hR1
   refine swp_cut fun K hK hR _ => ?_
   conv => whnf
   refine hK _ _ ?_
   clear hK hR
   conv => whnf
   intro c N2 _ _
   rfl
  | false =>
   repeat (refine aops_step fun T S hT hS => ?_; (conv => whnf); first | refine hT _ _ ?_ | refine hS ?_)
   refine aops_end ?_
   refine hK _ _ ?_
   conv => whnf
   refine ⟨_, c0, rfl, ?_⟩
   conv => whnf
   refine hR1 _ _ ?_
   conv => whnf
   intro c N2 _ _
   rfl
 ·have hq : readP x = (0, false) := if_neg hr
  rw [hq] at c1
  obtain ⟨z, ez, iz, c2⟩ := cube_fn (x := 0) ⟨by omega, by omega⟩
  have c3 := feSqrt_fn iz
  have hl : liftR x = (0, false) := by unfold liftR; rw [decide_eq_false hr]
  unfold liftV
  rw [hl]
  generalize sqrtP z = rr at *
  obtain ⟨r, ok⟩ := rr
  simp only at *
  refine swp_cut fun K hK hR _ => ?_
  conv => whnf
  refine hK _ _ ?_
  clear hK hR
  refine swp_cut fun K hK hR _ => ?_
  conv => whnf
  refine ⟨_, c1, rfl, ?_⟩
  conv => whnf
  refine hK _ _ ?_
  clear hK hR
  refine swp_cut fun K hK hR _ => ?_
  conv => whnf
  refine ⟨_, c2, rfl, ?_⟩
  conv => whnf
  refine ⟨_, c3, rfl, ?_⟩
  conv => whnf
  refine hK _ _ ?_
  clear hK hR
  refine swp_cut fun K1 hK1 hR1 _ => swp_cut fun K hK hR _ => ?_
  repeat (refine aops_step fun T S hT hS => ?_; (conv => whnf); first | refine hT _ _ ?_ | refine hS ?_)
  refine aops_end ?_
  refine hK _ _ ?_
  conv => whnf
  refine ⟨_, c0, rfl, ?_⟩
  conv => whnf
  refine hR1 _ _ ?_
  conv => whnf
  intro c N2 _ _
  rfl

def LfI (l0 l1 l2 l3 : Int) (k : Nat) (e : Env) (m : HM) : Prop :=
 ∃ (j t0 t1 : Nat) (N : Base), j ≤ 32 ∧ k = 32 - j ∧
  ((j = 0 ∧ e = [(5, .one (.int .i64 ((0 : Nat) : Int))), (4, .one (.slice none 0 0)), (3, .one (.bool false)), (2, .one (.ptr (some (.loc 1 0)))), (1, .one (.ptr (some (.loc 0 0))))] ∧ m = ⟨[some ⟨bcsL l0 l1 l2 l3, t0, 0, false⟩, some ⟨r9, t1, 0, false⟩], N⟩) ∨
   (0 < j ∧ ∃ cap, j ≤ cap ∧ e = [(5, .one (.int .i64 (j : Int))), (4, .one (.slice (some (.loc 2 0)) j cap)), (3, .one (.bool false)), (2, .one (.ptr (some (.loc 1 0)))), (1, .one (.ptr (some (.loc 0 0))))] ∧
    m = ⟨[some ⟨bcsL l0 l1 l2 l3, t0, 0, false⟩, some ⟨r9, t1, 0, false⟩, some ⟨(bcsL l0 l1 l2 l3).take j, 5, cap * 1, true⟩], N⟩))

theorem bcsL_len (l0 l1 l2 l3 : Int) : (bcsL l0 l1 l2 l3).length = 32 := rfl
theorem bcsL_cl (l0 l1 l2 l3 : Int) : closedL 0 (bcsL l0 l1 l2 l3) = true := rfl

end Go.Hv

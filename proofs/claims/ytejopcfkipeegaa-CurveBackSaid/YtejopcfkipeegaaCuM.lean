import Derived.Test.YtejopcfkipeegaaCuL
import Derived.Test.YtejopcfkipeegaaSq
import Derived.Test.YtejopcfkipeegaaOpB
namespace Go.Hv
open Go.Ev Go.Ec

theorem lift_right {x : Int} (h : (liftR x).2 = true) : rightP x (liftR x).1 false = true ∧ (liftR x).1 % 2 = 0 ∧ InW (liftR x).1 := by
  unfold liftR at *
  cases hd : decide (x % pp = x) with
  | false => rw [hd] at h; cases h
  | true =>
    rw [hd] at h
    simp only at h ⊢
    have h1 := sqrtP_sq h
    have h2 := sqrtP_lt (vK (toK x * toK x * toK x + 7))
    have h3 := sqrtP_even (vK (toK x * toK x * toK x + 7))
    rw [h2] at h3
    refine ⟨?_, h3, sqrtP_in _⟩
    generalize (sqrtP (vK (toK x * toK x * toK x + 7))).1 = r at *
    simp only [rightP, hd, h2, decide_true, Bool.true_and, decide_eq_true_eq]
    rw [vK_mod, ← vK_toK, vK_inj, toK_mul] at h1
    exact h1

theorem rem2 {r : Int} (h : InW r) (h2 : r % 2 = 0) : Int.tmod (r % 18446744073709551616) 2 = 0 := by
  rw [Int.tmod_eq_emod_of_nonneg (by omega)]
  omega

set_option maxHeartbeats 1000000 in
set_option maxRecDepth 100000 in
theorem lawCurveLifts_fn {x : Int} (hx : InW x) : Ev.Fn PG f_law05_CurveLifts [.agg (bcs4 x)] (.one (.bool true)) := by
  refine fn_startH (fun _ => none) h_law05_CurveLifts rfl (by kernel_rfl) (fun _ => by kernel_rfl) rfl rfl fun A => ?_
  obtain ⟨l0, l1, l2, l3, h0, h1, h2, h3, rfl⟩ := split4 hx
  rw [← bcsL_val h0 h1 h2 h3]
  have a5 := alive5_fn
  have c1 := cLift_fn h0 h1 h2 h3
  have c2 := r5Lift_fn h0 h1 h2 h3
  generalize val l0 l1 l2 l3 = x at *
  unfold liftV at c1 c2
  have hl := @lift_right x
  generalize liftR x = rr at *
  obtain ⟨r, ok⟩ := rr
  simp only at *
  refine swp_cut fun K hK hR _ => ?_
  conv => whnf
  refine hK _ _ ?_
  clear hK hR
  cases ok with
  | true =>
    obtain ⟨g1, g2, g3⟩ := hl rfl
    have c3 := cRight_fn (b := false) hx g3
    rw [g1] at c3
    have w := same9 x r false
    have e2 := rem2 g3 g2
    refine swp_cut fun K hK hR _ => ?_
    conv => whnf
    refine ⟨_, c1, rfl, ?_⟩
    conv => whnf
    refine hK _ _ ?_
    clear hK hR
    refine swp_cut fun K hK hR _ => ?_
    conv => whnf
    refine ⟨_, c2, rfl, ?_⟩
    conv => whnf
    refine hK _ _ ?_
    clear hK hR
    refine swp_cut fun K hK hR _ => ?_
    repeat (refine aops_step fun T S hT hS => ?_; (conv => whnf); (try rw [w]); (try rw [e2]); first | refine hT _ _ ?_ | refine hS ?_ | (refine ⟨_, a5, rfl, ?_⟩; refine hT _ _ ?_) | (refine ⟨_, c3, rfl, ?_⟩; refine hT _ _ ?_))
    refine aops_end ?_
    refine hK _ _ ?_
    conv => whnf
    intro c N2 _ _
    rfl
  | false =>
    have c3 := cRight_fn (x := 0) (y := 0) (b := true) ⟨by omega, by omega⟩ ⟨by omega, by omega⟩
    have e3 : rightP 0 0 true = true := by unfold rightP; decide
    rw [e3] at c3
    have w := same9 0 0 true
    refine swp_cut fun K hK hR _ => ?_
    conv => whnf
    refine ⟨_, c1, rfl, ?_⟩
    conv => whnf
    refine hK _ _ ?_
    clear hK hR
    refine swp_cut fun K hK hR _ => ?_
    conv => whnf
    refine ⟨_, c2, rfl, ?_⟩
    conv => whnf
    refine hK _ _ ?_
    clear hK hR
    refine swp_cut fun K hK hR _ => ?_
    repeat (refine aops_step fun T S hT hS => ?_; (conv => whnf); (try rw [w]); first | refine hT _ _ ?_ | refine hS ?_ | (refine ⟨_, a5, rfl, ?_⟩; refine hT _ _ ?_) | (refine ⟨_, c3, rfl, ?_⟩; refine hT _ _ ?_))
    refine aops_end ?_
    refine hK _ _ ?_
    conv => whnf
    intro c N2 _ _
    rfl

end Go.Hv

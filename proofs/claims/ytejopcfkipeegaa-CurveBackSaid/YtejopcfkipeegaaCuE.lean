import Derived.Test.YtejopcfkipeegaaCuL
namespace Go.Hv
open Go.Ev

/-- A point's thirty-three bytes. -/
def encC (x y : Int) (b : Bool) : List Sc :=
  match b with
  | true => List.replicate 33 (.int .u8 0)
  | false => match rightP x y false with
    | true => .int .u8 (if y % pp % 2 = 1 then 3 else 2) :: bcs4 x
    | false => List.replicate 33 (.int .u8 0)

theorem encC_closed (x y : Int) (b : Bool) : closedL 0 (encC x y b) = true := by
  unfold encC
  split
  · rfl
  · split <;> rfl

set_option maxHeartbeats 1000000 in
set_option maxRecDepth 100000 in
theorem cEncode_fn {x y : Int} {b : Bool} (hx : InW x) (hy : InW y) : Ev.Fn PG f_curve_Encode [ptV x y b] (.agg (encC x y b)) := by
  refine fn_startH (fun _ => none) h_curve_Encode rfl (by kernel_rfl) (fun _ => by kernel_rfl) rfl (encC_closed x y b) fun A => ?_
  have c1 := cRight_fn (b := b) hx hy
  have c2 := feOdd_fn hy
  have c3 := feBytes_fn hx
  refine swp_cut fun K hK hR _ => ?_
  conv => whnf
  refine hK _ _ ?_
  clear hK hR
  refine swp_cut fun K hK hR _ => ?_
  conv => whnf
  refine hK _ _ ?_
  clear hK hR
  refine swp_cut fun K1 hK1 hR1 _ => swp_cut fun K hK hR _ => ?_
  cases b with
  | true =>
    repeat (refine aops_step fun T S hT hS => ?_; (conv => whnf); first | refine hT _ _ ?_ | refine hS ?_)
    refine aops_end ?_
    refine hK _ _ ?_
    conv => whnf
    refine hR1 _ _ ?_
    conv => whnf
    intro c N2 _ _
    rfl
  | false =>
    cases hr : rightP x y false with
    | false =>
      rw [hr] at c1
      repeat (refine aops_step fun T S hT hS => ?_; (conv => whnf); first | refine hT _ _ ?_ | refine hS ?_ | (refine ⟨_, c1, rfl, ?_⟩; refine hT _ _ ?_))
      refine aops_end ?_
      refine hK _ _ ?_
      conv => whnf
      refine hR1 _ _ ?_
      conv => whnf
      intro c N2 _ _
      unfold encC
      rw [hr]
      rfl
    | true =>
      rw [hr] at c1
      repeat (refine aops_step fun T S hT hS => ?_; (conv => whnf); first | refine hT _ _ ?_ | refine hS ?_ | (refine ⟨_, c1, rfl, ?_⟩; refine hT _ _ ?_))
      refine aops_end ?_
      refine hK _ _ ?_
      have hxe : x % pp = x := by
        simp only [rightP, Bool.and_eq_true, decide_eq_true_eq] at hr
        exact hr.1
      rw [hxe] at c3
      conv => whnf
      refine hK1 _ _ ?_
      clear hK1 hR1
      refine swp_cut fun K hK hR _ => ?_
      conv => whnf
      refine hK _ _ ?_
      clear hK hR
      refine swp_cut fun K1 hK1 hR1 _ => swp_cut fun K hK hR _ => ?_
      conv => whnf
      refine ⟨_, c2, rfl, ?_⟩
      conv => whnf
      refine hK _ _ ?_
      clear hK hR
      conv => whnf
      by_cases ho : y % pp % 2 = 1
      · rw [decide_eq_true ho]
        show swpC _ _ _ _ _
        conv => whnf
        refine hK1 _ _ ?_
        clear hK1 hR1
        refine swp_cut fun K hK hR _ => ?_
        conv => whnf
        refine ⟨_, c3, rfl, ?_⟩
        conv => whnf
        refine hK _ _ ?_
        clear hK hR
        refine swp_cut fun K hK hR _ => ?_
        conv => whnf
        refine ⟨bcs4 x, rfl, ?_⟩
        conv => whnf
        refine hK _ _ ?_
        clear hK hR
        refine swp_cut fun K hK hR _ => ?_
        conv => whnf
        refine hK _ _ ?_
        clear hK hR
        conv => whnf
        intro c N2 _ _
        unfold encC
        rw [hr]
        simp [ho]
        rfl
      · rw [decide_eq_false ho]
        conv => whnf
        refine hK1 _ _ ?_
        clear hK1 hR1
        refine swp_cut fun K hK hR _ => ?_
        conv => whnf
        refine ⟨_, c3, rfl, ?_⟩
        conv => whnf
        refine hK _ _ ?_
        clear hK hR
        refine swp_cut fun K hK hR _ => ?_
        conv => whnf
        refine ⟨bcs4 x, rfl, ?_⟩
        conv => whnf
        refine hK _ _ ?_
        clear hK hR
        refine swp_cut fun K hK hR _ => ?_
        conv => whnf
        refine hK _ _ ?_
        clear hK hR
        conv => whnf
        intro c N2 _ _
        unfold encC
        rw [hr]
        simp [ho]
        rfl

end Go.Hv

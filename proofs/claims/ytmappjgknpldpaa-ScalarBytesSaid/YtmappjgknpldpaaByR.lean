import Derived.Test.YtmappjgknpldpaaByW
import Derived.Test.YtmappjgknpldpaaByS
namespace Go.Hv
open Go.Ev

theorem val_in {l0 l1 l2 l3 : Int} (h0 : InU l0) (h1 : InU l1) (h2 : InU l2) (h3 : InU l3) : InW (val l0 l1 l2 l3) := by unfold val; exact ⟨by omega, by omega⟩

theorem scReduce_fn {l0 l1 l2 l3 : Int} (h0 : InU l0) (h1 : InU l1) (h2 : InU l2) (h3 : InU l3) : Ev.Fn PG f_scalar_Reduce [.agg (bcsL l0 l1 l2 l3)] (.agg (words (val l0 l1 l2 l3 % nn))) := by
  refine fn_startH (fun _ => none) h_scalar_Reduce rfl (by kernel_rfl) (fun _ => by kernel_rfl) rfl (by kernel_rfl) fun A => ?_
  have w := scWords_fn h0 h1 h2 h3
  have n1 := scNorm_fn (val_in h0 h1 h2 h3)
  generalize val l0 l1 l2 l3 = y at *
  refine swp_cut fun K hK _ _ => ?_
  conv => whnf
  refine hK _ _ ?_
  conv => whnf
  refine ⟨_, w, rfl, ?_⟩
  conv => whnf
  refine ⟨_, n1, rfl, ?_⟩
  conv => whnf
  intro c N2 _ _
  rfl

def readN (y : Int) : Int × Bool := if y % nn = y then (y, true) else (0, false)

theorem scRead_fn {l0 l1 l2 l3 : Int} (h0 : InU l0) (h1 : InU l1) (h2 : InU l2) (h3 : InU l3) : Ev.Fn PG f_scalar_Read [.agg (bcsL l0 l1 l2 l3)] (.tup [.agg (words (readN (val l0 l1 l2 l3)).1), .one (.bool (readN (val l0 l1 l2 l3)).2)]) := by
  refine fn_startH (fun _ => none) h_scalar_Read rfl (by kernel_rfl) (fun _ => by kernel_rfl) rfl (by kernel_rfl) fun A => ?_
  have w := scWords_fn h0 h1 h2 h3
  have hy := val_in h0 h1 h2 h3
  have n1 := scNorm_fn hy
  generalize val l0 l1 l2 l3 = y at *
  have hw := weq (show InW (y % nn) from ⟨by unfold nn; omega, by unfold nn; omega⟩) hy
  refine swp_cut fun K hK hR _ => ?_
  conv => whnf
  refine hK _ _ (swp_cut fun K hK hR _ => ?_)
  conv => whnf
  refine ⟨_, w, rfl, ?_⟩
  conv => whnf
  refine hK _ _ (swp_cut fun K hK hR _ => ?_)
  conv => whnf
  refine ⟨_, n1, rfl, ?_⟩
  conv => whnf
  rw [hw]
  by_cases hr : y % nn = y
  · have hd : decide (y % nn = y) = true := decide_eq_true hr
    have hp : readN y = (y, true) := if_pos hr
    rw [hd]
    conv => whnf
    refine hK _ _ ?_
    conv => whnf
    intro c N2 _ _
    rw [hp]
    rfl
  · have hd : decide (y % nn = y) = false := decide_eq_false hr
    have hp : readN y = (0, false) := if_neg hr
    rw [hd]
    conv => whnf
    refine hR _ _ ?_
    conv => whnf
    intro c N2 _ _
    rw [hp]
    rfl

end Go.Hv

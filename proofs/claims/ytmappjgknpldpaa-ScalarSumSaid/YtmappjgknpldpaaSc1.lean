import Derived.Test.YtmappjgknpldpaaSc0
import Derived.Test.YtmappjgknpldpaaFrame
namespace Go.Ev

theorem scLess_fn : Fn PG f_scalar_less [] (.agg [u mdN.l0, u mdN.l1, u mdN.l2]) := by
  refine fn_go h_scalar_less rfl (by kernel_rfl) (fun _ => by kernel_rfl) rfl rfl fun W0 => ?_
  conv => whnf
  kernel_rfl

end Go.Ev

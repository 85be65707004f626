import Derived.Test.YtmappjgknpldpaaFeA
namespace Go.Ev

theorem inP (z : Int) : InW (z % pp) := by unfold pp; exact ⟨by omega, by omega⟩

theorem alive3_fn : Fn PG f_law03_alive [] (.one (.bool true)) := by
  refine fn_go h_law03_alive rfl (by kernel_rfl) (fun _ => by kernel_rfl) rfl rfl fun W0 => ?_
  have hsq := feSqrt_fn (x := 4) ⟨by omega, by omega⟩
  rw [sqrt4] at hsq
  have i1 : InW 1 := ⟨by omega, by omega⟩
  conv => whnf
  refine ⟨_, (feOf_fn (n := 1) ⟨by omega, by omega⟩).2 _ _, rfl, ?_⟩
  conv => whnf
  refine ⟨_, (feOf_fn (n := 4) ⟨by omega, by omega⟩).2 _ _, rfl, ?_⟩
  conv => whnf
  refine ⟨_, hsq.2 _ _, rfl, ?_⟩
  conv => whnf
  refine ⟨_, (feAdd_fn (x := 1) (y := 1) i1 i1).2 _ _, rfl, ?_⟩
  conv => whnf
  refine ⟨_, (feOf_fn (n := 2) ⟨by omega, by omega⟩).2 _ _, rfl, ?_⟩
  conv => whnf
  refine ⟨_, (feNeg_fn (x := 1) i1).2 _ _, rfl, ?_⟩
  conv => whnf
  refine ⟨_, (feNeg_fn (x := 1) i1).2 _ _, rfl, ?_⟩
  conv => whnf
  refine ⟨_, (feMul_fn (x := -1 % pp) (y := -1 % pp) (inP _) (inP _)).2 _ _, rfl, ?_⟩
  conv => whnf
  refine ⟨_, (feOf_fn (n := 2) ⟨by omega, by omega⟩).2 _ _, rfl, ?_⟩
  conv => whnf
  rfl

end Go.Ev

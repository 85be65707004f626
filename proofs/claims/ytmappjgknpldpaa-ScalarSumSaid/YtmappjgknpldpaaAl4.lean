import Derived.Test.YtmappjgknpldpaaSc5
namespace Go.Hv
open Go.Ev

theorem alive4_fn : Ev.Fn PG f_law04_alive [] (.one (.bool true)) := by
  refine fn_startH (fun _ => none) h_law04_alive rfl (by kernel_rfl) (fun _ => by kernel_rfl) rfl rfl fun A => ?_
  have i1 : InW 1 := ⟨by omega, by omega⟩
  have i2 : InW 2 := ⟨by omega, by omega⟩
  have o1 := scOf_fn (n := 1) ⟨by omega, by omega⟩
  have o2 := scOf_fn (n := 2) ⟨by omega, by omega⟩
  have o0 := scOf_fn (n := 0) ⟨by omega, by omega⟩
  have a1 := scAdd_fn i1 i1
  have g1 := scNeg_fn i1
  have g2 := scNeg_fn i2
  have m1 := scMul_fn (inN (-1)) (inN (-1))
  refine swp_cut fun K hK _ _ => ?_
  conv => whnf
  refine hK _ _ (swp_cut fun K hK _ _ => ?_)
  conv => whnf
  refine ⟨_, o1, rfl, ?_⟩
  conv => whnf
  refine hK _ _ (swp_cut fun K hK _ _ => ?_)
  conv => whnf
  refine ⟨_, a1, rfl, ?_⟩
  conv => whnf
  refine ⟨_, o2, rfl, ?_⟩
  conv => whnf
  refine ⟨_, g1, rfl, ?_⟩
  conv => whnf
  refine ⟨_, g1, rfl, ?_⟩
  conv => whnf
  refine ⟨_, m1, rfl, ?_⟩
  conv => whnf
  refine ⟨_, o2, rfl, ?_⟩
  conv => whnf
  refine ⟨_, g2, rfl, ?_⟩
  conv => whnf
  refine ⟨fun v _ => v = W (sumN [1, 1, -2 % nn]), fun c B _ hL => scSum_hc (l := [1, 1, -2 % nn]) (fun x hx => by simp at hx; rcases hx with rfl | rfl <;> first | exact i1 | exact inN _)
    (sl_lent (b := 1) (o := 0) (L := [1, 1, -2 % nn].map words) (post := []) hL rfl rfl rfl rfl (by decide) (by decide) (fun y hy => by simp at hy; rcases hy with rfl | rfl <;> rfl)), ⟨_, B0, rfl, rfl⟩, ?_⟩
  rintro v N' _ rfl N1 _
  conv => whnf
  refine ⟨_, o0, rfl, ?_⟩
  conv => whnf
  refine ⟨_, o2, rfl, ?_⟩
  conv => whnf
  refine hK _ _ ?_
  conv => whnf
  intro c N2 _ _
  rfl

end Go.Hv

import Derived.Test.YtmappjgknpldpaaAl4
namespace Go.Ev

theorem scTimes_fn {x y : Int} (hx : InW x) (hy : InW y) : Fn PG f_law04_ScalarTimes [W x, W y] (.one (.bool true)) := by
  refine fn_go h_law04_ScalarTimes rfl (by kernel_rfl) (fun _ => by kernel_rfl) rfl rfl fun W0 => ?_
  have m1 := scMul_fn hx hy
  have m2 := refMul_fn mdN_ok hx hy
  rw [mdN_M] at m2
  refine swp_cut fun K hK _ _ => ?_
  conv => whnf
  refine hK _ _ (swp_cut fun K hK _ _ => ?_)
  conv => whnf
  refine ⟨_, m1.2 _ _, rfl, ?_⟩
  conv => whnf
  refine ⟨_, refN_fn.2 _ _, rfl, ?_⟩
  conv => whnf
  refine ⟨_, (refOfScalar_fn x).2 _ _, rfl, ?_⟩
  conv => whnf
  refine ⟨_, (refOfScalar_fn y).2 _ _, rfl, ?_⟩
  conv => whnf
  refine ⟨_, m2.2 _ _, rfl, ?_⟩
  conv => whnf
  refine ⟨_, (refScalar_fn _).2 _ _, rfl, ?_⟩
  conv => whnf
  rw [weq_self]
  conv => whnf
  refine ⟨_, Hv.alive4_fn.2 _ _, rfl, ?_⟩
  conv => whnf
  refine hK _ _ ?_
  conv => whnf
  rfl

theorem scSums_fn {x y : Int} (hx : InW x) (hy : InW y) : Fn PG f_law04_ScalarSums [W x, W y] (.one (.bool true)) := by
  refine fn_go h_law04_ScalarSums rfl (by kernel_rfl) (fun _ => by kernel_rfl) rfl rfl fun W0 => ?_
  have n1 := scNorm_fn hx
  have n2 := refNorm_fn mdN_ok hx
  have a1 := scAdd_fn hx hy
  have a2 := refAdd_fn mdN_ok hx hy
  have g1 := scNeg_fn hx
  have g2 := refNeg_fn mdN_ok hx
  have s1 := scSub_fn hx hy
  have s2 := refSub_fn mdN_ok hx hy
  rw [mdN_M] at n2 a2 g2 s2
  refine swp_cut fun K hK _ _ => ?_
  conv => whnf
  refine hK _ _ (swp_cut fun K hK _ _ => ?_)
  conv => whnf
  refine ⟨_, refN_fn.2 _ _, rfl, ?_⟩
  conv => whnf
  refine hK _ _ (swp_cut fun K hK _ _ => ?_)
  conv => whnf
  refine ⟨_, (refOfScalar_fn x).2 _ _, rfl, ?_⟩
  conv => whnf
  refine hK _ _ (swp_cut fun K hK _ _ => ?_)
  conv => whnf
  refine ⟨_, (refOfScalar_fn y).2 _ _, rfl, ?_⟩
  conv => whnf
  refine hK _ _ (swp_cut fun K hK _ _ => ?_)
  conv => whnf
  refine ⟨_, n1.2 _ _, rfl, ?_⟩
  conv => whnf
  refine ⟨_, n2.2 _ _, rfl, ?_⟩
  conv => whnf
  refine ⟨_, (refScalar_fn _).2 _ _, rfl, ?_⟩
  conv => whnf
  rw [weq_self]
  conv => whnf
  refine ⟨_, a1.2 _ _, rfl, ?_⟩
  conv => whnf
  refine ⟨_, a2.2 _ _, rfl, ?_⟩
  conv => whnf
  refine ⟨_, (refScalar_fn _).2 _ _, rfl, ?_⟩
  conv => whnf
  rw [weq_self]
  conv => whnf
  refine ⟨_, g1.2 _ _, rfl, ?_⟩
  conv => whnf
  refine ⟨_, g2.2 _ _, rfl, ?_⟩
  conv => whnf
  refine ⟨_, (refScalar_fn _).2 _ _, rfl, ?_⟩
  conv => whnf
  rw [weq_self]
  conv => whnf
  refine ⟨_, s1.2 _ _, rfl, ?_⟩
  conv => whnf
  refine ⟨_, s2.2 _ _, rfl, ?_⟩
  conv => whnf
  refine ⟨_, (refScalar_fn _).2 _ _, rfl, ?_⟩
  conv => whnf
  rw [weq_self]
  conv => whnf
  refine ⟨_, Hv.alive4_fn.2 _ _, rfl, ?_⟩
  conv => whnf
  refine hK _ _ ?_
  conv => whnf
  rfl

theorem scLaws_fn {x y z : Int} (hx : InW x) (hy : InW y) (hz : InW z) : Fn PG f_law04_ScalarLaws [W x, W y, W z] (.one (.bool true)) := by
  refine fn_go h_law04_ScalarLaws rfl (by kernel_rfl) (fun _ => by kernel_rfl) rfl rfl fun W0 => ?_
  have a1 := scAdd_fn hx hy
  have a2 := scAdd_fn hy hx
  have a3 := scAdd_fn (inN (x + y)) hz
  have a4 := scAdd_fn hy hz
  have a5 := scAdd_fn hx (inN (y + z))
  have m1 := scMul_fn hx hy
  have m2 := scMul_fn hy hx
  have m3 := scMul_fn (inN (x * y)) hz
  have m4 := scMul_fn hy hz
  have m5 := scMul_fn hx (inN (y * z))
  have m6 := scMul_fn hx (inN (y + z))
  have m7 := scMul_fn hx hz
  have a6 := scAdd_fn (inN (x * y)) (inN (x * z))
  have s1 := scSub_fn (inN (x + y)) hy
  have n1 := scNorm_fn hx
  have g1 := scNeg_fn hx
  have a7 := scAdd_fn hx (inN (-x))
  have o := scOf_fn (n := 0) ⟨by omega, by omega⟩
  have e2 : (y + x) = x + y := Int.add_comm _ _
  have e3 : ((x + y) % nn + z) % nn = (x + y + z) % nn := by rw [Int.emod_add_emod]
  have e5 : (x + (y + z) % nn) % nn = (x + y + z) % nn := by rw [Int.add_emod_emod, Int.add_assoc]
  have e6 : y * x = x * y := Int.mul_comm _ _
  have e7 : (x * y % nn * z) % nn = (x * y * z) % nn := by rw [mulmod_l]
  have e8 : (x * (y * z % nn)) % nn = (x * y * z) % nn := by rw [mulmod_r, Int.mul_assoc]
  have e9 : (x * ((y + z) % nn)) % nn = (x * y + x * z) % nn := by rw [mulmod_r, Int.mul_add]
  have e10 : (x * y % nn + x * z % nn) % nn = (x * y + x * z) % nn := by rw [← Int.add_emod]
  have e11 : ((x + y) % nn - y) % nn = x % nn := by rw [Int.emod_sub_emod]; congr 1; omega
  have e12 : (x + -x % nn) % nn = 0 := by rw [Int.add_emod_emod, Int.add_right_neg]; rfl
  rw [e2] at a2
  rw [e3] at a3
  rw [e5] at a5
  rw [e6] at m2
  rw [e7] at m3
  rw [e8] at m5
  rw [e9] at m6
  rw [e10] at a6
  rw [e11] at s1
  rw [e12] at a7
  clear e2 e3 e5 e6 e7 e8 e9 e10 e11 e12
  refine swp_cut fun K hK _ _ => ?_
  conv => whnf
  refine hK _ _ (swp_cut fun K hK _ _ => ?_)
  conv => whnf
  refine ⟨_, (a1).2 _ _, rfl, ?_⟩
  conv => whnf
  refine ⟨_, (a2).2 _ _, rfl, ?_⟩
  conv => whnf
  rw [weq_self]
  conv => whnf
  refine ⟨_, (a1).2 _ _, rfl, ?_⟩
  conv => whnf
  refine ⟨_, (a3).2 _ _, rfl, ?_⟩
  conv => whnf
  refine ⟨_, (a4).2 _ _, rfl, ?_⟩
  conv => whnf
  refine ⟨_, (a5).2 _ _, rfl, ?_⟩
  conv => whnf
  rw [weq_self]
  conv => whnf
  refine hK _ _ (swp_cut fun K hK _ _ => ?_)
  conv => whnf
  refine ⟨_, (m1).2 _ _, rfl, ?_⟩
  conv => whnf
  refine ⟨_, (m2).2 _ _, rfl, ?_⟩
  conv => whnf
  rw [weq_self]
  conv => whnf
  refine ⟨_, (m1).2 _ _, rfl, ?_⟩
  conv => whnf
  refine ⟨_, (m3).2 _ _, rfl, ?_⟩
  conv => whnf
  refine ⟨_, (m4).2 _ _, rfl, ?_⟩
  conv => whnf
  refine ⟨_, (m5).2 _ _, rfl, ?_⟩
  conv => whnf
  rw [weq_self]
  conv => whnf
  refine hK _ _ (swp_cut fun K hK _ _ => ?_)
  conv => whnf
  refine ⟨_, (a4).2 _ _, rfl, ?_⟩
  conv => whnf
  refine ⟨_, (m6).2 _ _, rfl, ?_⟩
  conv => whnf
  refine ⟨_, (m1).2 _ _, rfl, ?_⟩
  conv => whnf
  refine ⟨_, (m7).2 _ _, rfl, ?_⟩
  conv => whnf
  refine ⟨_, (a6).2 _ _, rfl, ?_⟩
  conv => whnf
  rw [weq_self]
  conv => whnf
  refine hK _ _ (swp_cut fun K hK _ _ => ?_)
  conv => whnf
  refine ⟨_, (a1).2 _ _, rfl, ?_⟩
  conv => whnf
  refine ⟨_, (s1).2 _ _, rfl, ?_⟩
  conv => whnf
  refine ⟨_, (n1).2 _ _, rfl, ?_⟩
  conv => whnf
  rw [weq_self]
  conv => whnf
  refine ⟨_, (g1).2 _ _, rfl, ?_⟩
  conv => whnf
  refine ⟨_, (a7).2 _ _, rfl, ?_⟩
  conv => whnf
  refine ⟨_, (o).2 _ _, rfl, ?_⟩
  conv => whnf
  refine ⟨_, Hv.alive4_fn.2 _ _, rfl, ?_⟩
  conv => whnf
  refine hK _ _ ?_
  conv => whnf
  rfl

end Go.Ev


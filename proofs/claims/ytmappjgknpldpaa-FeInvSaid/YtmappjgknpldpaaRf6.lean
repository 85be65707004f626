import Derived.Test.YtmappjgknpldpaaRf5
namespace Go.Ev

theorem refInv_fn {D : MD} (hD : D.Ok) {x : Int} (hx : InW x) : Fn PG f_ref03_Inv [D.tv, W x] (W (x ^ (D.M - 2).toNat % D.M)) := by
  refine fn_go h_ref03_Inv rfl (by kernel_rfl) (fun _ => by kernel_rfl) rfl rfl fun W0 => ?_
  have hb := hD.big
  have hM := hD.inW
  have hmin := refMinus_fn (y := 2) hM ⟨by omega, by omega⟩
  have e1 : (D.M - 2) % 115792089237316195423570985008687907853269984665640564039457584007913129639936 = D.M - 2 := by
    have := hM.2; omega
  rw [e1] at hmin
  simp only [W, hD.words] at hmin
  have hp := refPower_fn hD hx (E := D.M - 2) ⟨by omega, by have := hM.2; omega⟩
  refine swp_cut fun K hK _ _ => ?_
  conv => whnf
  refine hK _ _ (swp_cut fun K hK _ _ => ?_)
  conv => whnf
  refine ⟨_, (refSmall_fn (n := 2) ⟨by omega, by omega⟩).2 _ _, rfl, ?_⟩
  conv => whnf
  refine ⟨_, hmin.2 _ _, rfl, ?_⟩
  conv => whnf
  refine ⟨_, hp.2 _ _, rfl, ?_⟩
  conv => whnf
  refine hK _ _ ?_
  conv => whnf
  rfl

theorem refSqrt_fn {x : Int} (hx : InW x) : Fn PG f_ref03_Sqrt [W x] (.tup [.agg (words (sqrtP x).1), .one (.bool (sqrtP x).2)]) := by
  refine fn_go h_ref03_Sqrt rfl (by kernel_rfl) (fun _ => by kernel_rfl) rfl rfl fun W0 => ?_
  generalize hs : sqrtP x = sv
  unfold sqrtP at hs
  have hpl := refPlus_fn (x := pp) (y := 1) (by unfold pp; exact ⟨by omega, by omega⟩) ⟨by omega, by omega⟩
  have hpw := refPower_fn mdP_ok hx (E := (pp + 1) / 4) (by unfold pp; exact ⟨by omega, by omega⟩)
  rw [mdP_M] at hpw
  have hr : x ^ ((pp + 1) / 4).toNat % pp = rootP x := rfl
  rw [hr] at hpw
  have hrw : InW (rootP x) := by rw [← hr]; unfold pp; exact ⟨by omega, by omega⟩
  have hm := refMul_fn mdP_ok hrw hrw
  rw [mdP_M] at hm
  have hn := refNorm_fn mdP_ok hx
  rw [mdP_M] at hn
  have hg := refNeg_fn mdP_ok hrw
  rw [mdP_M] at hg
  refine swp_cut fun K hK r1 _ => ?_
  conv => whnf
  refine hK _ _ (swp_cut fun K hK r2 _ => ?_)
  conv => whnf
  refine ⟨_, refP_fn.2 _ _, rfl, ?_⟩
  conv => whnf
  refine hK _ _ (swp_cut fun K hK r3 _ => ?_)
  conv => whnf
  refine ⟨_, (refSmall_fn (n := 1) ⟨by omega, by omega⟩).2 _ _, rfl, ?_⟩
  conv => whnf
  refine ⟨_, cast_args (B := [W pp, W 1]) (by kernel_rfl) (hpl.2 _ _), rfl, ?_⟩
  conv => whnf
  refine hK _ _ (swp_cut fun K hK r4 _ => ?_)
  conv => whnf
  refine hK _ _ (swp_cut fun K hK r5 _ => ?_)
  conv => whnf
  refine .inl ⟨5, ?_⟩
  conv => whnf
  refine hK _ _ (swp_cut fun K hK r6 _ => ?_)
  conv => whnf
  refine ⟨_, cast_args (B := [mdP.tv, W x, W ((pp + 1) / 4)]) (by kernel_rfl) (hpw.2 _ _), rfl, ?_⟩
  conv => whnf
  refine hK _ _ (swp_cut fun K hK r7 _ => ?_)
  conv => whnf
  refine ⟨_, hm.2 _ _, rfl, ?_⟩
  conv => whnf
  refine ⟨_, hn.2 _ _, rfl, ?_⟩
  conv => whnf
  have hmod : ∀ z : Int, InW (z % pp) := fun z => by unfold pp; exact ⟨by omega, by omega⟩
  rw [weq (hmod _) (hmod _)]
  split
  · rename_i h
    have h : ¬ (rootP x * rootP x % pp = x % pp) := by simpa using h
    rw [if_neg h] at hs
    subst hs
    conv => whnf
    refine r7 _ _ ?_
    conv => whnf
    rfl
  · rename_i h
    have h : rootP x * rootP x % pp = x % pp := by simpa using h
    rw [if_pos h] at hs
    conv => whnf
    refine hK _ _ (swp_cut fun K hK q1 _ => ?_)
    have ht : (rootP x % 18446744073709551616).tmod 2 = rootP x % 2 := by
      rw [Int.tmod_eq_emod_of_nonneg (by omega)]; omega
    conv => whnf
    rw [ht]
    split
    · rename_i h2
      have h2 : rootP x % 2 = 1 := by simpa using h2
      rw [if_pos h2] at hs
      subst hs
      conv => whnf
      refine ⟨_, hg.2 _ _, rfl, ?_⟩
      conv => whnf
      refine q1 _ _ ?_
      conv => whnf
      rfl
    · rename_i h2
      have h2 : ¬ rootP x % 2 = 1 := by simpa using h2
      rw [if_neg h2] at hs
      subst hs
      conv => whnf
      refine hK _ _ ?_
      conv => whnf
      rfl

end Go.Ev

import Derived.Test.YtaochmekimkegaaCu9
namespace Go.Hv
open Go.Ev Go.Ec

theorem nn_NN : nn.toNat = 115792089237316195423570985008687907852837564279074904382605163141518161494337 := by unfold nn; rfl

theorem smul_mod {P : Pt PPn} (hP : On P) (k : Nat) : smul (k % nn.toNat) P = smul k P := by
 have h : k = nn.toNat * (k / nn.toNat) + k % nn.toNat := (Nat.div_add_mod k _).symm
 conv => rhs; rw [h]
 rw [smul_add fld P hP, smul_mul fld P hP, n_all nn_NN P hP, smul_none _ fld, none_add fld _ (smul_on fld P hP _)]

theorem smul_modI {P : Pt PPn} (hP : On P) {k : Int} (hk : 0 ≤ k) : smul (k % nn).toNat P = smul k.toNat P := by
 have : (k % nn).toNat = k.toNat % nn.toNat := by
  have h : 0 < nn := by unfold nn; omega
  rw [Int.toNat_emod hk (by omega)]
 rw [this, smul_mod hP]

theorem pt_nm (P : Pt PPn) (h : On P) : ∃ x y b, InW x ∧ InW y ∧ ptOf P = ptV x y b ∧ tkn x y b = P ∧ rightP x y b = true := by
 match P, h with
 | none, _ => exact ⟨0, 0, true, ⟨by omega, by omega⟩, ⟨by omega, by omega⟩, rfl, rfl, by unfold rightP; decide⟩
 | some (a, c), h =>
  have hr : rightP (vK a) (vK c) false = true := by
   simp only [rightP, vK_mod, toK_vK, decide_true, Bool.true_and, decide_eq_true_eq]
   exact h
  refine ⟨vK a, vK c, false, vK_in a, vK_in c, rfl, ?_, hr⟩
  unfold tkn
  simp only [hr, toK_vK]

theorem same9 (x y : Int) (b : Bool) : ((x % 18446744073709551616 == x % 18446744073709551616) &&
  ((x / 18446744073709551616 % 18446744073709551616 == x / 18446744073709551616 % 18446744073709551616) &&
   ((x / 340282366920938463463374607431768211456 % 18446744073709551616 == x / 340282366920938463463374607431768211456 % 18446744073709551616) &&
    ((x / 6277101735386680763835789423207666416102355444464034512896 % 18446744073709551616 == x / 6277101735386680763835789423207666416102355444464034512896 % 18446744073709551616) &&
 ((y % 18446744073709551616 == y % 18446744073709551616) &&
  ((y / 18446744073709551616 % 18446744073709551616 == y / 18446744073709551616 % 18446744073709551616) &&
   ((y / 340282366920938463463374607431768211456 % 18446744073709551616 == y / 340282366920938463463374607431768211456 % 18446744073709551616) &&
    ((y / 6277101735386680763835789423207666416102355444464034512896 % 18446744073709551616 == y / 6277101735386680763835789423207666416102355444464034512896 % 18446744073709551616) && ((b == b) && true))))))))) = true := by
 simp only [beq_self_eq_true, Bool.and_self]

set_option maxHeartbeats 1000000 in
set_option maxRecDepth 100000 in
theorem alive5_fn : Ev.Fn PG f_law05_alive [] (.one (.bool true)) := by
 refine fn_startH (fun _ => none) h_law05_alive rfl (by kernel_rfl) (fun _ => by kernel_rfl) rfl rfl fun A => ?_
 obtain ⟨x, y, b, ix, iy, eg, tg, rg⟩ := pt_nm gP gP_on
 have c1 := base_fn
 have c2 := r5base_fn
 have c3 := cRight_fn (b := b) ix iy
 have c4 := zero_fn
 have c5 := cAdd_fn (b := b) (b' := true) ix iy (x' := 0) (y' := 0) ⟨by omega, by omega⟩ ⟨by omega, by omega⟩
 have c6 := cNeg_fn (b := b) ix iy
 obtain ⟨x2, y2, b2, ix2, iy2, eg2, tg2, rg2⟩ := pt_nm (neg gP) (neg_on _ gP_on)
 have c7 := cAdd_fn (b := b) (b' := b2) ix iy ix2 iy2
 have tz : tkn 0 0 true = none := rfl
 rw [tg, tz, add_none fld _ gP_on, eg] at c5
 rw [tg, eg2] at c6
 rw [tg, tg2, add_neg fld _ gP_on] at c7
 rw [rg] at c3
 rw [eg] at c1 c2
 have c7 : Ev.Fn PG f_curve_Add [ptV x y b, ptV x2 y2 b2] (ptV 0 0 true) := c7
 have w := same9 x y b
 have w0 := same9 0 0 true
 refine swp_cut fun K hK hR _ => ?_
 conv => whnf
 refine hK _ _ ?_
 clear hK hR
 refine swp_cut fun K hK hR _ => ?_
 conv => whnf
 refine ⟨_, c1, rfl, ?_⟩
 conv => whnf
 refine hK _ _ ?_
 clear hK hR
 refine swp_cut fun K hK hR _ => ?_
 repeat (refine aops_step fun T S hT hS => ?_; (conv => whnf); (try rw [w]); (try rw [w0]); first | refine hT _ _ ?_ | refine hS ?_ | (refine ⟨_, c2, rfl, ?_⟩; refine hT _ _ ?_) | (refine ⟨_, c3, rfl, ?_⟩; refine hT _ _ ?_) | (refine ⟨_, c4, rfl, ?_⟩; refine hT _ _ ?_) | (refine ⟨_, c5, rfl, ?_⟩; refine hT _ _ ?_) | (refine ⟨_, c6, rfl, ?_⟩; refine hT _ _ ?_) | (refine ⟨_, c7, rfl, ?_⟩; refine hT _ _ ?_))
 refine aops_end ?_
 refine hK _ _ ?_
 conv => whnf
 intro c N2 _ _
 rfl

end Go.Hv

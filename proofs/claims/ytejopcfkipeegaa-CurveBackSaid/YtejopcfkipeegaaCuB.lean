import Derived.Test.YtejopcfkipeegaaCuA
namespace Go.Hv
open Go.Ev Go.Ec

set_option maxHeartbeats 1000000 in
set_option maxRecDepth 100000 in
theorem lawCurveRights_fn {x y : Int} (hx : InW x) (hy : InW y) (b : Bool) : Ev.Fn PG f_law05_CurveRights [ptV x y b] (.one (.bool true)) := by
  refine fn_startH (fun _ => none) h_law05_CurveRights rfl (by kernel_rfl) (fun _ => by kernel_rfl) rfl rfl fun A => ?_
  have a5 := alive5_fn
  have c1 := cRight_fn (b := b) hx hy
  have c2 := r5Right_fn (b := b) hx hy
  generalize rightP x y b = r at *
  obtain ⟨x2, y2, b2, ix2, iy2, e2, t2, g2⟩ := pt_nm (neg (tkn x y b)) (neg_on _ (tkn_on _ _ _))
  have c3 := cNeg_fn (b := b) hx hy
  have c4 := r5Neg_fn (b := b) hx hy
  rw [e2] at c3 c4
  have w := same9 x2 y2 b2
  have w1 : (r == r) = true := beq_self_eq_true r
  refine swp_cut fun K hK hR _ => ?_
  conv => whnf
  refine hK _ _ ?_
  clear hK hR
  refine swp_cut fun K hK hR _ => ?_
  repeat (refine aops_step fun T S hT hS => ?_; (conv => whnf); (try rw [w]); (try rw [w1]); first | refine hT _ _ ?_ | refine hS ?_ | (refine ⟨_, a5, rfl, ?_⟩; refine hT _ _ ?_) | (refine ⟨_, c1, rfl, ?_⟩; refine hT _ _ ?_) | (refine ⟨_, c2, rfl, ?_⟩; refine hT _ _ ?_) | (refine ⟨_, c3, rfl, ?_⟩; refine hT _ _ ?_) | (refine ⟨_, c4, rfl, ?_⟩; refine hT _ _ ?_))
  refine aops_end ?_
  refine hK _ _ ?_
  conv => whnf
  intro c N2 _ _
  rfl

set_option maxHeartbeats 1000000 in
set_option maxRecDepth 100000 in
theorem lawCurveAdds_fn {x y x' y' : Int} (hx : InW x) (hy : InW y) (b : Bool) (hx' : InW x') (hy' : InW y') (b' : Bool) : Ev.Fn PG f_law05_CurveAdds [ptV x y b, ptV x' y' b'] (.one (.bool true)) := by
  refine fn_startH (fun _ => none) h_law05_CurveAdds rfl (by kernel_rfl) (fun _ => by kernel_rfl) rfl rfl fun A => ?_
  have a5 := alive5_fn
  have c1 := cAdd_fn (b := b) (b' := b') hx hy hx' hy'
  have c2 := r5Add_fn (b := b) (b' := b') hx hy hx' hy'
  obtain ⟨x2, y2, b2, ix2, iy2, e2, t2, g2⟩ := pt_nm _ (add_on fld _ _ (tkn_on x y b) (tkn_on x' y' b'))
  have c3 := cRight_fn (b := b2) ix2 iy2
  rw [e2] at c1 c2
  rw [g2] at c3
  have w := same9 x2 y2 b2
  refine swp_cut fun K hK hR _ => ?_
  conv => whnf
  refine hK _ _ ?_
  clear hK hR
  refine swp_cut fun K hK hR _ => ?_
  conv => whnf
  refine ⟨_, c1, rfl, ?_⟩
  conv => whnf
  refine hK _ _ ?_
  clear hK hR
  refine swp_cut fun K hK hR _ => ?_
  repeat (refine aops_step fun T S hT hS => ?_; (conv => whnf); (try rw [w]); first | refine hT _ _ ?_ | refine hS ?_ | (refine ⟨_, a5, rfl, ?_⟩; refine hT _ _ ?_) | (refine ⟨_, c2, rfl, ?_⟩; refine hT _ _ ?_) | (refine ⟨_, c3, rfl, ?_⟩; refine hT _ _ ?_))
  refine aops_end ?_
  refine hK _ _ ?_
  conv => whnf
  intro c N2 _ _
  rfl

theorem r5Mul_fn' {k x y : Int} {b : Bool} (hk : InW k) (hx : InW x) (hy : InW y) : Ev.Fn PG f_ref05_Mul [W k, ptV x y b] (ptOf (smul k.toNat (tkn x y b))) := by
  have := r5Mul_fn (b := b) hk hx hy
  rw [smul_modI (tkn_on x y b) hk.1] at this
  exact this

set_option maxHeartbeats 1000000 in
set_option maxRecDepth 100000 in
theorem lawCurveMuls_fn {k x y : Int} (hk : InW k) (hx : InW x) (hy : InW y) (b : Bool) : Ev.Fn PG f_law05_CurveMuls [W k, ptV x y b] (.one (.bool true)) := by
  refine fn_startH (fun _ => none) h_law05_CurveMuls rfl (by kernel_rfl) (fun _ => by kernel_rfl) rfl rfl fun A => ?_
  have a5 := alive5_fn
  have c1 := cMul_fn (b := b) hk hx hy
  have c2 := r5Mul_fn' (b := b) hk hx hy
  obtain ⟨x2, y2, b2, ix2, iy2, e2, t2, g2⟩ := pt_nm _ (smul_on fld _ (tkn_on x y b) k.toNat)
  have c3 := cRight_fn (b := b2) ix2 iy2
  rw [e2] at c1 c2
  rw [g2] at c3
  have w := same9 x2 y2 b2
  refine swp_cut fun K hK hR _ => ?_
  conv => whnf
  refine hK _ _ ?_
  clear hK hR
  refine swp_cut fun K hK hR _ => ?_
  conv => whnf
  refine ⟨_, c1, rfl, ?_⟩
  conv => whnf
  refine hK _ _ ?_
  clear hK hR
  refine swp_cut fun K hK hR _ => ?_
  repeat (refine aops_step fun T S hT hS => ?_; (conv => whnf); (try rw [w]); first | refine hT _ _ ?_ | refine hS ?_ | (refine ⟨_, a5, rfl, ?_⟩; refine hT _ _ ?_) | (refine ⟨_, c2, rfl, ?_⟩; refine hT _ _ ?_) | (refine ⟨_, c3, rfl, ?_⟩; refine hT _ _ ?_))
  refine aops_end ?_
  refine hK _ _ ?_
  conv => whnf
  intro c N2 _ _
  rfl

set_option maxHeartbeats 1000000 in
set_option maxRecDepth 100000 in
theorem lawCurveLaws_fn {x y x' y' x'' y'' : Int} (hx : InW x) (hy : InW y) (b : Bool) (hx' : InW x') (hy' : InW y') (b' : Bool) (hx'' : InW x'') (hy'' : InW y'') (b'' : Bool) : Ev.Fn PG f_law05_CurveLaws [ptV x y b, ptV x' y' b', ptV x'' y'' b''] (.one (.bool true)) := by
  refine fn_startH (fun _ => none) h_law05_CurveLaws rfl (by kernel_rfl) (fun _ => by kernel_rfl) rfl rfl fun A => ?_
  have a5 := alive5_fn
  have c4 := zero_fn
  have oP := tkn_on x y b
  have oQ := tkn_on x' y' b'
  have oR := tkn_on x'' y'' b''
  have c1 := cAdd_fn (b := b) (b' := b') hx hy hx' hy'
  have c2 := cAdd_fn (b := b') (b' := b) hx' hy' hx hy
  have c3 := cAdd_fn (b := b') (b' := b'') hx' hy' hx'' hy''
  have c5 := cNeg_fn (b := b) hx hy
  rw [add_comm (tkn x' y' b') (tkn x y b)] at c2
  obtain ⟨x1, y1, b1, ix1, iy1, e1, t1, g1⟩ := pt_nm _ (add_on fld _ _ oP oQ)
  obtain ⟨x2, y2, b2, ix2, iy2, e2, t2, g2⟩ := pt_nm _ (add_on fld _ _ oQ oR)
  obtain ⟨x3, y3, b3, ix3, iy3, e3, t3, g3⟩ := pt_nm _ (neg_on _ oP)
  obtain ⟨x4, y4, b4, ix4, iy4, e4, t4, g4⟩ := pt_nm _ (add_on fld _ _ oP (add_on fld _ _ oQ oR))
  have c6 := cAdd_fn (b := b1) (b' := b'') ix1 iy1 hx'' hy''
  have c7 := cAdd_fn (b := b) (b' := b2) hx hy ix2 iy2
  have c8 := cAdd_fn (b := b) (b' := b3) hx hy ix3 iy3
  rw [t1, add_assoc fld _ _ _ oP oQ oR, e4] at c6
  rw [t2, e4] at c7
  rw [t3, add_neg fld _ oP] at c8
  have c8 : Ev.Fn PG f_curve_Add [ptV x y b, ptV x3 y3 b3] (ptV 0 0 true) := c8
  rw [e1] at c1 c2
  rw [e2] at c3
  rw [e3] at c5
  have w1 := same9 x1 y1 b1
  have w4 := same9 x4 y4 b4
  have w0 := same9 0 0 true
  refine swp_cut fun K hK hR _ => ?_
  conv => whnf
  refine hK _ _ ?_
  clear hK hR
  refine swp_cut fun K hK hR _ => ?_
  repeat (refine aops_step fun T S hT hS => ?_; (conv => whnf); (try rw [w1]); (try rw [w4]); (try rw [w0]); first | refine hT _ _ ?_ | refine hS ?_ | (refine ⟨_, a5, rfl, ?_⟩; refine hT _ _ ?_) | (refine ⟨_, c1, rfl, ?_⟩; refine hT _ _ ?_) | (refine ⟨_, c2, rfl, ?_⟩; refine hT _ _ ?_) | (refine ⟨_, c3, rfl, ?_⟩; refine hT _ _ ?_) | (refine ⟨_, c4, rfl, ?_⟩; refine hT _ _ ?_) | (refine ⟨_, c5, rfl, ?_⟩; refine hT _ _ ?_) | (refine ⟨_, c6, rfl, ?_⟩; refine hT _ _ ?_) | (refine ⟨_, c7, rfl, ?_⟩; refine hT _ _ ?_) | (refine ⟨_, c8, rfl, ?_⟩; refine hT _ _ ?_))
  refine aops_end ?_
  refine hK _ _ ?_
  conv => whnf
  intro c N2 _ _
  rfl

def ordSpreads : Nat → Option (List Nat)
  | 1 => some [0, 1, 2, 3, 4, 6, 5, 7]
  | _ => none

set_option maxHeartbeats 2000000 in
set_option maxRecDepth 100000 in
theorem lawCurveSpreads_fn {k l x y x' y' : Int} (hk : InW k) (hl : InW l) (hx : InW x) (hy : InW y) (b : Bool) (hx' : InW x') (hy' : InW y') (b' : Bool) : Ev.Fn PG f_law05_CurveSpreads [W k, W l, .agg (ptC x y b ++ ptC x' y' b')] (.one (.bool true)) := by
  refine fn_startH ordSpreads h_law05_CurveSpreads rfl (by kernel_rfl) (fun _ => by kernel_rfl) rfl rfl fun A => ?_
  have a5 := alive5_fn
  have oP := tkn_on x y b
  have oQ := tkn_on x' y' b'
  have s1 := r5AddS_fn hk hl
  have s2 := r5MulS_fn hk hl
  have i1 : InW ((k + l) % nn) := by unfold nn; exact ⟨by omega, by omega⟩
  have i2 : InW (k * l % nn) := by unfold nn; exact ⟨by omega, by omega⟩
  have m1 := cMul_fn (b := b) i1 hx hy
  have m2 := cMul_fn (b := b) hk hx hy
  have m3 := cMul_fn (b := b) hl hx hy
  have m4 := cMul_fn (b := b') hk hx' hy'
  have m5 := cMul_fn (b := b) i2 hx hy
  have d1 := cAdd_fn (b := b) (b' := b') hx hy hx' hy'
  rw [smul_modI oP (by omega)] at m1
  rw [smul_modI oP (Int.mul_nonneg hk.1 hl.1)] at m5
  rw [show (k + l).toNat = k.toNat + l.toNat by omega, smul_add fld _ oP] at m1
  rw [Int.toNat_mul hk.1 hl.1, Nat.mul_comm, smul_mul fld _ oP] at m5
  generalize (k + l) % nn = c at *
  generalize k * l % nn = d at *
  obtain ⟨x1, y1, b1, ix1, iy1, e1, t1, g1⟩ := pt_nm _ (smul_on fld _ oP k.toNat)
  obtain ⟨x2, y2, b2, ix2, iy2, e2, t2, g2⟩ := pt_nm _ (smul_on fld _ oP l.toNat)
  obtain ⟨x3, y3, b3, ix3, iy3, e3, t3, g3⟩ := pt_nm _ (smul_on fld _ oQ k.toNat)
  obtain ⟨x4, y4, b4, ix4, iy4, e4, t4, g4⟩ := pt_nm _ (add_on fld _ _ oP oQ)
  obtain ⟨x5, y5, b5, ix5, iy5, e5, t5, g5⟩ := pt_nm _ (add_on fld _ _ (smul_on fld _ oP k.toNat) (smul_on fld _ oP l.toNat))
  obtain ⟨x6, y6, b6, ix6, iy6, e6, t6, g6⟩ := pt_nm _ (add_on fld _ _ (smul_on fld _ oP k.toNat) (smul_on fld _ oQ k.toNat))
  obtain ⟨x7, y7, b7, ix7, iy7, e7, t7, g7⟩ := pt_nm _ (smul_on fld _ (smul_on fld _ oP l.toNat) k.toNat)
  have d2 := cAdd_fn (b := b1) (b' := b2) ix1 iy1 ix2 iy2
  have d3 := cAdd_fn (b := b1) (b' := b3) ix1 iy1 ix3 iy3
  have m6 := cMul_fn (b := b4) hk ix4 iy4
  have m7 := cMul_fn (b := b2) hk ix2 iy2
  rw [t1, t2, e5] at d2
  rw [t1, t3, e6] at d3
  rw [t4, smul_sum fld _ _ oP oQ, e6] at m6
  rw [t2, e7] at m7
  rw [e5] at m1
  rw [e1] at m2
  rw [e2] at m3
  rw [e3] at m4
  rw [e7] at m5
  rw [e4] at d1
  have w5 := same9 x5 y5 b5
  have w6 := same9 x6 y6 b6
  have w7 := same9 x7 y7 b7
  clear e1 e2 e3 e4 e5 e6 e7 t1 t2 t3 t4 t5 t6 t7 oP oQ
  refine swp_cut fun K hK hR _ => ?_
  conv => whnf
  refine hK _ _ ?_
  clear hK hR
  refine swp_cut fun K hK hR _ => ?_
  conv => whnf
  refine hK _ _ ?_
  clear hK hR
  refine swp_cut fun K hK hR _ => ?_
  conv => whnf
  refine ⟨_, s1, rfl, ?_⟩
  conv => whnf
  refine hK _ _ ?_
  clear hK hR
  refine swp_cut fun K hK hR _ => ?_
  conv => whnf
  refine ⟨_, s2, rfl, ?_⟩
  conv => whnf
  refine hK _ _ ?_
  clear hK hR
  refine swp_cut fun K hK hR _ => ?_
  repeat (refine aops_step fun T S hT hS => ?_; (conv => whnf); (try rw [w5]); (try rw [w6]); (try rw [w7]); first | refine hT _ _ ?_ | refine hS ?_ | (refine ⟨_, a5, rfl, ?_⟩; refine hT _ _ ?_) | (refine ⟨_, d1, rfl, ?_⟩; refine hT _ _ ?_) | (refine ⟨_, d2, rfl, ?_⟩; refine hT _ _ ?_) | (refine ⟨_, d3, rfl, ?_⟩; refine hT _ _ ?_) | (refine ⟨_, m1, rfl, ?_⟩; refine hT _ _ ?_) | (refine ⟨_, m2, rfl, ?_⟩; refine hT _ _ ?_) | (refine ⟨_, m3, rfl, ?_⟩; refine hT _ _ ?_) | (refine ⟨_, m4, rfl, ?_⟩; refine hT _ _ ?_) | (refine ⟨_, m5, rfl, ?_⟩; refine hT _ _ ?_) | (refine ⟨_, m6, rfl, ?_⟩; refine hT _ _ ?_) | (refine ⟨_, m7, rfl, ?_⟩; refine hT _ _ ?_))
  refine aops_end ?_
  refine hK _ _ ?_
  conv => whnf
  intro c N2 _ _
  rfl

end Go.Hv

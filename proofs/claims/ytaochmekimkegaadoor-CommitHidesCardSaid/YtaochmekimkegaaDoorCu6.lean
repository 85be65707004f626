import Derived.Test.YtaochmekimkegaaDoorCu5
namespace Go.Hv
open Go.Ev Go.Ec

theorem r5point_fn (x y : Int) : Ev.Fn PG f_ref05_point [W x, W y] (ptV x y false) := by
 refine fn_startH (fun _ => none) h_ref05_point rfl (by kernel_rfl) (fun _ => by kernel_rfl) rfl rfl fun A => ?_
 have c1 := refFe_fn x
 have c2 := refFe_fn y
 refine swp_cut fun K hK hR _ => ?_
 conv => whnf
 refine hK _ _ ?_
 clear hK hR
 refine swp_cut fun K hK hR _ => ?_
 conv => whnf
 refine ⟨_, c1, rfl, ?_⟩
 conv => whnf
 refine ⟨_, c2, rfl, ?_⟩
 conv => whnf
 refine hK _ _ ?_
 clear hK hR
 conv => whnf
 intro c N2 _ _
 rfl

end Go.Hv
namespace Go.Ec
section
variable {p : Nat} [NeZero p]
theorem alg_neg {x y1 y2 : Fin p} (F : Fld p) (h1 : y1 * y1 = x * x * x + 7) (h2 : y2 * y2 = x * x * x + 7) (hn : y1 ≠ y2) : y2 = -y1 := by
 have hne : y1 - y2 ≠ 0 := fun h => hn (by grind)
 have hsq : (y1 - y2) * (y1 + y2) = 0 := by grind
 have := F.nz hsq hne
 grind
end
end Go.Ec
namespace Go.Hv
open Go.Ev Go.Ec

set_option maxRecDepth 100000 in
theorem r5Add_fn {x y x' y' : Int} {b b' : Bool} (hx : InW x) (hy : InW y) (hx' : InW x') (hy' : InW y') : Ev.Fn PG f_ref05_Add [ptV x y b, ptV x' y' b'] (ptOf (add (tkn x y b) (tkn x' y' b'))) := by
 refine fn_startH (fun _ => none) h_ref05_Add rfl (by kernel_rfl) (fun _ => by kernel_rfl) rfl (ptOf_closed _) fun A => ?_
 have t1 := taken_fn (b := b) hx hy
 have t2 := taken_fn (b := b') hx' hy'
 have o1 := tkn_on x y b
 have o2 := tkn_on x' y' b'
 generalize tkn x y b = P at *
 generalize tkn x' y' b' = Q at *
 match P, Q with
 | none, none =>
  refine swp_cut fun K hK hR _ => ?_
  conv => whnf
  refine hK _ _ ?_
  clear hK hR
  refine swp_cut fun K hK hR _ => ?_
  conv => whnf
  refine ⟨_, t1, rfl, ?_⟩
  conv => whnf
  refine hK _ _ ?_
  clear hK hR
  refine swp_cut fun K hK hR _ => ?_
  conv => whnf
  refine ⟨_, t2, rfl, ?_⟩
  conv => whnf
  refine hK _ _ ?_
  clear hK hR
  refine swp_cut fun K1 hK1 hR1 _ => swp_cut fun K hK hR _ => ?_
  conv => whnf
  refine hK _ _ ?_
  clear hK hR
  conv => whnf
  conv => whnf
  refine hR1 _ _ ?_
  conv => whnf
  intro c N2 _ _
  rw [add_none fld none trivial]
  rfl
 | none, some (a2, b2) =>
  refine swp_cut fun K hK hR _ => ?_
  conv => whnf
  refine hK _ _ ?_
  clear hK hR
  refine swp_cut fun K hK hR _ => ?_
  conv => whnf
  refine ⟨_, t1, rfl, ?_⟩
  conv => whnf
  refine hK _ _ ?_
  clear hK hR
  refine swp_cut fun K hK hR _ => ?_
  conv => whnf
  refine ⟨_, t2, rfl, ?_⟩
  conv => whnf
  refine hK _ _ ?_
  clear hK hR
  refine swp_cut fun K1 hK1 hR1 _ => swp_cut fun K hK hR _ => ?_
  conv => whnf
  refine hK _ _ ?_
  clear hK hR
  conv => whnf
  conv => whnf
  refine hR1 _ _ ?_
  conv => whnf
  intro c N2 _ _
  rw [none_add fld _ o2]
  rfl
 | some (a1, b1), none =>
  refine swp_cut fun K hK hR _ => ?_
  conv => whnf
  refine hK _ _ ?_
  clear hK hR
  refine swp_cut fun K hK hR _ => ?_
  conv => whnf
  refine ⟨_, t1, rfl, ?_⟩
  conv => whnf
  refine hK _ _ ?_
  clear hK hR
  refine swp_cut fun K hK hR _ => ?_
  conv => whnf
  refine ⟨_, t2, rfl, ?_⟩
  conv => whnf
  refine hK _ _ ?_
  clear hK hR
  refine swp_cut fun K1 hK1 hR1 _ => swp_cut fun K hK hR _ => ?_
  conv => whnf
  refine hK _ _ ?_
  clear hK hR
  conv => whnf
  conv => whnf
  refine hK1 _ _ ?_
  clear hK1 hR1
  refine swp_cut fun K1 hK1 hR1 _ => swp_cut fun K hK hR _ => ?_
  conv => whnf
  refine hK _ _ ?_
  clear hK hR
  conv => whnf
  conv => whnf
  refine hR1 _ _ ?_
  conv => whnf
  intro c N2 _ _
  rw [add_none fld _ o1]
  rfl
 | some (a1, b1), some (a2, b2) =>
  obtain ⟨x1, hx1, ix1⟩ := vK_nm a1
  obtain ⟨y1, hy1, iy1⟩ := vK_nm b1
  obtain ⟨x2, hx2, ix2⟩ := vK_nm a2
  obtain ⟨y2, hy2, iy2⟩ := vK_nm b2
  have e1 : ptOf (some (a1, b1)) = ptV x1 y1 false := by rw [hx1, hy1]; rfl
  have e2 : ptOf (some (a2, b2)) = ptV x2 y2 false := by rw [hx2, hy2]; rfl
  rw [e1] at t1
  rw [e2] at t2
  simp only [On] at o1 o2
  have f1 := refOf_fn x1
  have f2 := refOf_fn y1
  have f3 := refOf_fn x2
  have f4 := refOf_fn y2
  have cP := refP_fn
  have wx := weq ix1 ix2
  rw [decK hx1 hx2] at wx
  obtain ⟨d1, ed1, id1, m1⟩ := rSubK hy2 hy1
  obtain ⟨d2, ed2, id2, m2⟩ := rSubK hx2 hx1
  refine swp_cut fun K hK hR _ => ?_
  conv => whnf
  refine hK _ _ ?_
  clear hK hR
  refine swp_cut fun K hK hR _ => ?_
  conv => whnf
  refine ⟨_, t1, rfl, ?_⟩
  conv => whnf
  refine hK _ _ ?_
  clear hK hR
  refine swp_cut fun K hK hR _ => ?_
  conv => whnf
  refine ⟨_, t2, rfl, ?_⟩
  conv => whnf
  refine hK _ _ ?_
  clear hK hR
  refine swp_cut fun K1 hK1 hR1 _ => swp_cut fun K hK hR _ => ?_
  conv => whnf
  refine hK _ _ ?_
  clear hK hR
  conv => whnf
  conv => whnf
  refine hK1 _ _ ?_
  clear hK1 hR1
  refine swp_cut fun K1 hK1 hR1 _ => swp_cut fun K hK hR _ => ?_
  conv => whnf
  refine hK _ _ ?_
  clear hK hR
  conv => whnf
  conv => whnf
  refine hK1 _ _ ?_
  clear hK1 hR1
  refine swp_cut fun K hK hR _ => ?_
  conv => whnf
  refine ⟨_, f1, rfl, ?_⟩
  conv => whnf
  refine hK _ _ ?_
  clear hK hR
  refine swp_cut fun K hK hR _ => ?_
  conv => whnf
  refine ⟨_, f2, rfl, ?_⟩
  conv => whnf
  refine hK _ _ ?_
  clear hK hR
  refine swp_cut fun K hK hR _ => ?_
  conv => whnf
  refine ⟨_, f3, rfl, ?_⟩
  conv => whnf
  refine hK _ _ ?_
  clear hK hR
  refine swp_cut fun K hK hR _ => ?_
  conv => whnf
  refine ⟨_, f4, rfl, ?_⟩
  conv => whnf
  refine hK _ _ ?_
  clear hK hR
  refine swp_cut fun K hK hR _ => ?_
  conv => whnf
  refine ⟨_, m1, rfl, ?_⟩
  conv => whnf
  refine hK _ _ ?_
  clear hK hR
  refine swp_cut fun K hK hR _ => ?_
  conv => whnf
  refine ⟨_, m2, rfl, ?_⟩
  conv => whnf
  refine hK _ _ ?_
  clear hK hR
  refine swp_cut fun K1 hK1 hR1 _ => swp_cut fun K hK hR _ => ?_
  conv => whnf
  refine hK _ _ ?_
  clear hK hR
  conv => whnf
  rw [wx]
  by_cases hxx : a1 = a2
  ·subst hxx
   rw [decide_eq_true rfl]
   have wy := weq iy1 iy2
   have wz := weq0 iy1
   rw [decK hy1 hy2] at wy
   rw [dec1 hy1 (fld.y0 o1)] at wz
   show swpC _ _ _ _ _
   by_cases hyy : b1 = b2
   ·subst hyy
    rw [decide_eq_true rfl] at wy
    refine swp_cut fun K2 hK2 hR2 _ => swp_cut fun K hK hR _ => ?_
    repeat (refine aops_step fun T S hT hS => ?_; (conv => whnf); (try rw [wy]); (try rw [wz]); first | refine hT _ _ ?_ | refine hS ?_)
    refine aops_end ?_
    refine hK _ _ ?_
    conv => whnf
    refine hK2 _ _ ?_
    clear hK hR hK2 hR2
    obtain ⟨xx, exx, ixx, n1⟩ := rMulK hx1 hx1
    obtain ⟨xx2, exx2, ixx2, n2⟩ := rAddK exx exx
    obtain ⟨tp, etp, itp, n3⟩ := rAddK exx exx2
    obtain ⟨ud, eud, iud, n4⟩ := rAddK hy1 hy1
    obtain ⟨i0, ei0, ii0, m3⟩ := rInvK eud
    obtain ⟨s, es, is, m4⟩ := rMulK etp ei0
    obtain ⟨ss, ess, iss, m5⟩ := rMulK es es
    obtain ⟨s1, es1, is1, m6⟩ := rSubK ess hx1
    obtain ⟨x3, ex3, ix3, m7⟩ := rSubK es1 hx2
    obtain ⟨q1, eq1, iq1, m8⟩ := rSubK hx1 ex3
    obtain ⟨q2, eq2, iq2, m9⟩ := rMulK es eq1
    obtain ⟨q3, eq3, iq3, m10⟩ := rSubK eq2 hy1
    have m11 := r5point_fn x3 q3
    refine swp_cut fun K hK hR _ => ?_
    conv => whnf
    refine ⟨_, n1, rfl, ?_⟩
    conv => whnf
    refine hK _ _ ?_
    clear hK hR
    refine swp_cut fun K hK hR _ => ?_
    conv => whnf
    refine ⟨_, n2, rfl, ?_⟩
    conv => whnf
    refine ⟨_, n3, rfl, ?_⟩
    conv => whnf
    refine hK _ _ ?_
    clear hK hR
    conv => whnf
    refine ⟨_, n4, rfl, ?_⟩
    conv => whnf
    refine hK1 _ _ ?_
    clear hK1 hR1
    refine swp_cut fun K hK hR _ => ?_
    conv => whnf
    refine ⟨_, cP, rfl, ?_⟩
    conv => whnf
    refine ⟨_, m3, rfl, ?_⟩
    conv => whnf
    refine ⟨_, m4, rfl, ?_⟩
    conv => whnf
    refine hK _ _ ?_
    clear hK hR
    refine swp_cut fun K hK hR _ => ?_
    conv => whnf
    refine ⟨_, m5, rfl, ?_⟩
    conv => whnf
    refine ⟨_, m6, rfl, ?_⟩
    conv => whnf
    refine ⟨_, m7, rfl, ?_⟩
    conv => whnf
    refine hK _ _ ?_
    clear hK hR
    refine swp_cut fun K hK hR _ => ?_
    conv => whnf
    refine ⟨_, m8, rfl, ?_⟩
    conv => whnf
    refine ⟨_, m9, rfl, ?_⟩
    conv => whnf
    refine ⟨_, m10, rfl, ?_⟩
    conv => whnf
    refine ⟨_, m11, rfl, ?_⟩
    conv => whnf
    refine hK _ _ ?_
    clear hK hR
    conv => whnf
    intro c N2 _ _
    rw [add_tangent fld o1 rfl]
    show _ = ptV (vK _) (vK _) false
    rw [← ex3, ← eq3]
    rfl
   ·rw [decide_eq_false hyy] at wy
    have c0 := r5zero_fn
    refine swp_cut fun K2 hK2 hR2 _ => swp_cut fun K hK hR _ => ?_
    repeat (refine aops_step fun T S hT hS => ?_; (conv => whnf); (try rw [wy]); (try rw [wz]); first | refine hT _ _ ?_ | refine hS ?_)
    refine aops_end ?_
    refine hK _ _ ?_
    conv => whnf
    refine ⟨_, c0, rfl, ?_⟩
    conv => whnf
    refine hR2 _ _ ?_
    conv => whnf
    refine hR1 _ _ ?_
    conv => whnf
    intro c N2 _ _
    have hn := alg_neg fld o1 o2 hyy
    rw [hn]
    have := add_neg fld (some (a1, b1)) o1
    simp only [neg] at this
    rw [this]
    rfl
  ·rw [decide_eq_false hxx]
   obtain ⟨i0, ei0, ii0, m3⟩ := rInvK ed2
   obtain ⟨s, es, is, m4⟩ := rMulK ed1 ei0
   obtain ⟨ss, ess, iss, m5⟩ := rMulK es es
   obtain ⟨s1, es1, is1, m6⟩ := rSubK ess hx1
   obtain ⟨x3, ex3, ix3, m7⟩ := rSubK es1 hx2
   obtain ⟨q1, eq1, iq1, m8⟩ := rSubK hx1 ex3
   obtain ⟨q2, eq2, iq2, m9⟩ := rMulK es eq1
   obtain ⟨q3, eq3, iq3, m10⟩ := rSubK eq2 hy1
   have m11 := r5point_fn x3 q3
   conv => whnf
   refine hK1 _ _ ?_
   clear hK1 hR1
   refine swp_cut fun K hK hR _ => ?_
   conv => whnf
   refine ⟨_, cP, rfl, ?_⟩
   conv => whnf
   refine ⟨_, m3, rfl, ?_⟩
   conv => whnf
   refine ⟨_, m4, rfl, ?_⟩
   conv => whnf
   refine hK _ _ ?_
   clear hK hR
   refine swp_cut fun K hK hR _ => ?_
   conv => whnf
   refine ⟨_, m5, rfl, ?_⟩
   conv => whnf
   refine ⟨_, m6, rfl, ?_⟩
   conv => whnf
   refine ⟨_, m7, rfl, ?_⟩
   conv => whnf
   refine hK _ _ ?_
   clear hK hR
   refine swp_cut fun K hK hR _ => ?_
   conv => whnf
   refine ⟨_, m8, rfl, ?_⟩
   conv => whnf
   refine ⟨_, m9, rfl, ?_⟩
   conv => whnf
   refine ⟨_, m10, rfl, ?_⟩
   conv => whnf
   refine ⟨_, m11, rfl, ?_⟩
   conv => whnf
   refine hK _ _ ?_
   clear hK hR
   conv => whnf
   intro c N2 _ _
   rw [add_chord fld o1 o2 hxx rfl]
   show _ = ptV (vK _) (vK _) false
   rw [← ex3, ← eq3]
   rfl

end Go.Hv

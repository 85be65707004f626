import Derived.Test.YthmdbgdagnhheaaDoorCu3
namespace Go.Hv
open Go.Ev Go.Ec

def outT (P : Pt PPn) : KK × KK × KK :=
 match P with
 | none => (0, 0, 0)
 | some (a, c) => (a, c, 1)

theorem kinv1 : kinv (1 : KK) = 1 := fld.inv_of (by decide)

theorem hm_out (P : Pt PPn) : hm (outT P) = P := by
 match P with
 | none => exact hm_z rfl
 | some (a, c) =>
  show hm (a, c, 1) = _
  rw [hm_n fld.one, kinv1]
  have h1 : ∀ z : KK, z * (1 * 1) = z := fun z => by
   have : (1 : KK) * 1 = 1 := rfl
   rw [this]; exact Fin.mul_one z
  have h2 : ∀ z : KK, z * (1 * 1 * 1) = z := fun z => by
   have : (1 : KK) * 1 * 1 = 1 := rfl
   rw [this]; exact Fin.mul_one z
  rw [h1, h2]

def ptOf (P : Pt PPn) : TV :=
 match P with
 | none => ptV 0 0 true
 | some (a, c) => ptV (vK a) (vK c) false

theorem ptOf_closed (P : Pt PPn) : (ptOf P).closed 0 = true := by
 match P with
 | none => rfl
 | some (a, c) => rfl

theorem rightP_K {x y : Int} (h : rightP x y false = true) : x = vK (toK x) ∧ y = vK (toK y) := by
 simp only [rightP, Bool.and_eq_true, decide_eq_true_eq] at h
 exact ⟨by rw [vK_toK]; exact h.1.symm, by rw [vK_toK]; exact h.2.1.symm⟩

set_option maxRecDepth 100000 in
theorem out_fn {x y : Int} {b : Bool} (hx : InW x) (hy : InW y) : Ev.Fn PG f_curve_out [ptV x y b] (farV (outT (tkn x y b))) := by
 refine fn_startH (fun _ => none) h_curve_out rfl (by kernel_rfl) (fun _ => by kernel_rfl) rfl rfl fun A => ?_
 have c0 := cRight_fn (b := b) hx hy
 have c1 := feOf_fn (n := 1) ⟨by omega, by omega⟩
 refine swp_cut fun K hK hR _ => ?_
 conv => whnf
 refine hK _ _ ?_
 clear hK hR
 refine swp_cut fun K1 hK1 hR1 _ => swp_cut fun K hK hR _ => ?_
 cases b with
 | true =>
  repeat (refine aops_step fun T S hT hS => ?_; (conv => whnf); first | refine hT _ _ ?_ | refine hS ?_ | (refine ⟨_, c0, rfl, ?_⟩; refine hT _ _ ?_))
  refine aops_end ?_
  refine hK _ _ ?_
  conv => whnf
  refine hR1 _ _ ?_
  conv => whnf
  intro c N2 _ _
  show _ = farV (outT none)
  unfold outT
  rfl
 | false =>
  cases hr : rightP x y false with
  | false =>
   rw [hr] at c0
   repeat (refine aops_step fun T S hT hS => ?_; (conv => whnf); first | refine hT _ _ ?_ | refine hS ?_ | (refine ⟨_, c0, rfl, ?_⟩; refine hT _ _ ?_))
   refine aops_end ?_
   refine hK _ _ ?_
   conv => whnf
   refine hR1 _ _ ?_
   conv => whnf
   intro c N2 _ _
   unfold tkn
   simp only [hr]
   rfl
  | true =>
   rw [hr] at c0
   obtain ⟨g1, g2⟩ := rightP_K hr
   repeat (refine aops_step fun T S hT hS => ?_; (conv => whnf); first | refine hT _ _ ?_ | refine hS ?_ | (refine ⟨_, c0, rfl, ?_⟩; refine hT _ _ ?_))
   refine aops_end ?_
   refine hK _ _ ?_
   conv => whnf
   refine hK1 _ _ ?_
   clear hK1 hR1
   refine swp_cut fun K hK hR _ => ?_
   conv => whnf
   refine ⟨_, c1, rfl, ?_⟩
   conv => whnf
   refine hK _ _ ?_
   clear hK hR
   conv => whnf
   intro c N2 _ _
   unfold tkn
   simp only [hr]
   show _ = TV.agg (farC (vK (toK x)) (vK (toK y)) (vK 1))
   rw [← g1, ← g2]
   rfl

set_option maxRecDepth 100000 in
theorem cNeg_fn {x y : Int} {b : Bool} (hx : InW x) (hy : InW y) : Ev.Fn PG f_curve_Neg [ptV x y b] (ptOf (neg (tkn x y b))) := by
 refine fn_startH (fun _ => none) h_curve_Neg rfl (by kernel_rfl) (fun _ => by kernel_rfl) rfl (ptOf_closed _) fun A => ?_
 have c0 := cRight_fn (b := b) hx hy
 have c1 := zero_fn
 refine swp_cut fun K hK hR _ => ?_
 conv => whnf
 refine hK _ _ ?_
 clear hK hR
 refine swp_cut fun K1 hK1 hR1 _ => swp_cut fun K hK hR _ => ?_
 cases b with
 | true =>
  repeat (refine aops_step fun T S hT hS => ?_; (conv => whnf); first | refine hT _ _ ?_ | refine hS ?_ | (refine ⟨_, c0, rfl, ?_⟩; refine hT _ _ ?_))
  refine aops_end ?_
  refine hK _ _ ?_
  conv => whnf
  refine ⟨_, c1, rfl, ?_⟩
  conv => whnf
  refine hR1 _ _ ?_
  conv => whnf
  intro c N2 _ _
  rfl
 | false =>
  cases hr : rightP x y false with
  | false =>
   rw [hr] at c0
   repeat (refine aops_step fun T S hT hS => ?_; (conv => whnf); first | refine hT _ _ ?_ | refine hS ?_ | (refine ⟨_, c0, rfl, ?_⟩; refine hT _ _ ?_))
   refine aops_end ?_
   refine hK _ _ ?_
   conv => whnf
   refine ⟨_, c1, rfl, ?_⟩
   conv => whnf
   refine hR1 _ _ ?_
   conv => whnf
   intro c N2 _ _
   unfold tkn
   simp only [hr]
   rfl
  | true =>
   rw [hr] at c0
   obtain ⟨g1, g2⟩ := rightP_K hr
   obtain ⟨y2, ey2, iy2, c2⟩ := feNegK g2
   repeat (refine aops_step fun T S hT hS => ?_; (conv => whnf); first | refine hT _ _ ?_ | refine hS ?_ | (refine ⟨_, c0, rfl, ?_⟩; refine hT _ _ ?_))
   refine aops_end ?_
   refine hK _ _ ?_
   conv => whnf
   refine hK1 _ _ ?_
   clear hK1 hR1
   refine swp_cut fun K hK hR _ => ?_
   conv => whnf
   refine ⟨_, c2, rfl, ?_⟩
   conv => whnf
   refine hK _ _ ?_
   clear hK hR
   conv => whnf
   intro c N2 _ _
   unfold tkn
   simp only [hr]
   show _ = ptV (vK (toK x)) (vK (-toK y)) false
   rw [← g1, ← ey2]
   rfl

set_option maxRecDepth 100000 in
theorem home_fn (T : KK × KK × KK) : Ev.Fn PG f_curve_far_home [farV T] (ptOf (hm T)) := by
 refine fn_startH (fun _ => none) h_curve_far_home rfl (by kernel_rfl) (fun _ => by kernel_rfl) rfl (ptOf_closed _) fun A => ?_
 obtain ⟨a1, b1, c1⟩ := T
 obtain ⟨x1, hx1, ix1⟩ := vK_nm a1
 obtain ⟨y1, hy1, iy1⟩ := vK_nm b1
 obtain ⟨z1, hz1, iz1⟩ := vK_nm c1
 have e1 := farV_eq hx1 hy1 hz1
 have c0 := zero_fn
 rw [e1]
 refine swp_cut fun K hK hR _ => ?_
 conv => whnf
 refine hK _ _ ?_
 clear hK hR
 refine swp_cut fun K1 hK1 hR1 _ => swp_cut fun K hK hR _ => ?_
 conv => whnf
 refine hK _ _ ?_
 clear hK hR
 conv => whnf
 rw [weq0 iz1]
 by_cases hc1 : c1 = 0
 ·rw [dec0 hz1 hc1]
  conv => whnf
  refine ⟨_, c0, rfl, ?_⟩
  conv => whnf
  refine hR1 _ _ ?_
  conv => whnf
  intro c N2 _ _
  rw [hm_z hc1]
  rfl
 ·rw [dec1 hz1 hc1]
  obtain ⟨i, ei, ii, m1⟩ := feInvK hz1
  obtain ⟨s, es, is, m2⟩ := feMulK ei ei
  obtain ⟨x2, ex2, ix2, m3⟩ := feMulK hx1 es
  obtain ⟨s3, es3, is3, m4⟩ := feMulK es ei
  obtain ⟨y2, ey2, iy2, m5⟩ := feMulK hy1 es3
  conv => whnf
  refine hK1 _ _ ?_
  clear hK1 hR1
  refine swp_cut fun K hK hR _ => ?_
  conv => whnf
  refine ⟨_, m1, rfl, ?_⟩
  conv => whnf
  refine hK _ _ ?_
  clear hK hR
  refine swp_cut fun K hK hR _ => ?_
  conv => whnf
  refine ⟨_, m2, rfl, ?_⟩
  conv => whnf
  refine hK _ _ ?_
  clear hK hR
  refine swp_cut fun K hK hR _ => ?_
  conv => whnf
  refine ⟨_, m3, rfl, ?_⟩
  conv => whnf
  refine ⟨_, m4, rfl, ?_⟩
  conv => whnf
  refine ⟨_, m5, rfl, ?_⟩
  conv => whnf
  refine hK _ _ ?_
  clear hK hR
  conv => whnf
  intro c N2 _ _
  rw [hm_n hc1]
  show _ = ptV (vK _) (vK _) false
  rw [← ex2, ← ey2]
  rfl

theorem base_fn : Ev.Fn PG f_curve_Base [] (ptOf gP) := by
 refine fn_startH (fun _ => none) h_curve_Base rfl (by kernel_rfl) (fun _ => by kernel_rfl) rfl (ptOf_closed _) fun A => ?_
 conv => whnf
 intro c N2 _ _
 kernel_rfl

end Go.Hv

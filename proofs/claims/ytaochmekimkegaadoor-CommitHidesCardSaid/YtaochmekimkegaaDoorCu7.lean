import Derived.Test.YtaochmekimkegaaDoorCu6
namespace Go.Ec
section
variable {p : Nat} [NeZero p]
theorem alg_tri (a : Fin p) : a + (a + a) = a + a + a := by grind
theorem sub_eq0 {a b : Fin p} : a - b = 0 ↔ a = b := by
 constructor
 ·intro h; grind
 ·intro h; grind
theorem m1 (a : Fin p) : a * 1 = a := by grind

theorem pl_one {x1 y1 z1 x2 y2 : Fin p} (h1 : z1 ≠ 0) (h : (1 : Fin p) ≠ 0) (hh : x2 * (z1 * z1) ≠ x1) : pl (x1, y1, z1) (x2, y2, 1) =
  (
   let h := x2 * (z1 * z1) - x1
   let r := y2 * (z1 * z1 * z1) - y1
   let hh := h * h
   let hhh := h * hh
   let v := x1 * hh
   let x := r * r - hhh - (v + v)
   (x, r * (v - x) - y1 * hhh, h * z1)) := by
 rw [pl_g h1 h (by rw [m1, m1]; exact fun h => hh (sub_eq0.1 h))]
 unfold plG
 simp only [m1]

theorem pl_one0 {x1 y1 z1 x2 y2 : Fin p} (h1 : z1 = 0) : pl (x1, y1, z1) (x2, y2, 1) = (x2, y2, 1) := if_pos h1
theorem pl_one1 {x1 y1 z1 x2 y2 : Fin p} (h1 : z1 ≠ 0) (h : (1 : Fin p) ≠ 0) (hh : x2 * (z1 * z1) = x1) (hr : y2 * (z1 * z1 * z1) = y1) : pl (x1, y1, z1) (x2, y2, 1) = tw (x1, y1, z1) := by
 show (if z1 = 0 then _ else _) = _
 rw [if_neg h1, if_neg h, if_pos (by rw [m1, m1]; exact sub_eq0.2 hh), if_pos (by rw [m1, m1, m1]; exact sub_eq0.2 hr)]
theorem pl_one2 {x1 y1 z1 x2 y2 : Fin p} (h1 : z1 ≠ 0) (h : (1 : Fin p) ≠ 0) (hh : x2 * (z1 * z1) = x1) (hr : y2 * (z1 * z1 * z1) ≠ y1) : pl (x1, y1, z1) (x2, y2, 1) = (0, 0, 0) := by
 show (if z1 = 0 then _ else _) = _
 rw [if_neg h1, if_neg h, if_pos (by rw [m1, m1]; exact sub_eq0.2 hh), if_neg (by rw [m1, m1, m1]; exact fun h => hr (sub_eq0.1 h))]
end
end Go.Ec
namespace Go.Hv
open Go.Ev Go.Ec

set_option maxRecDepth 100000 in
theorem r5twice_fn (T : KK × KK × KK) : Ev.Fn PG f_ref05_twice [farV T] (farV (tw T)) := by
 refine fn_startH (fun _ => none) h_ref05_twice rfl (by kernel_rfl) (fun _ => by kernel_rfl) rfl (by kernel_rfl) fun A => ?_
 obtain ⟨a, b, c⟩ := T
 obtain ⟨x, hx, hxi⟩ := vK_nm a
 obtain ⟨y, hy, hyi⟩ := vK_nm b
 obtain ⟨z, hz, hzi⟩ := vK_nm c
 have e0 := farV_eq hx hy hz
 rw [e0]
 refine swp_cut fun K hK hR _ => ?_
 conv => whnf
 refine hK _ _ ?_
 clear hK hR
 refine swp_cut fun K1 hK1 hR1 _ => swp_cut fun K hK hR _ => ?_
 conv => whnf
 refine hK _ _ ?_
 clear hK hR
 conv => whnf
 rw [weq0 hzi]
 by_cases hc : c = 0
 ·rw [dec0 hz hc]
  conv => whnf
  refine hR1 _ _ ?_
  conv => whnf
  intro c2 N2 _ _
  have e1 : tw (a, b, c) = (a, b, c) := if_pos hc
  rw [e1, e0]
  rfl
 ·rw [dec1 hz hc]
  obtain ⟨aa, eaa, iaa, c1⟩ := rMulK hx hx
  obtain ⟨bb, ebb, ibb, c2⟩ := rMulK hy hy
  obtain ⟨cc, ecc, icc, c3⟩ := rMulK ebb ebb
  obtain ⟨d0, ed0, id0, c4⟩ := rMulK hx ebb
  obtain ⟨d1, ed1, id1, c5⟩ := rAddK ed0 ed0
  obtain ⟨d2, ed2, id2, c6⟩ := rAddK ed1 ed1
  obtain ⟨e1, ee1, ie1, c7⟩ := rAddK eaa eaa
  obtain ⟨e2, ee2, ie2, c8⟩ := rAddK eaa ee1
  rw [alg_tri] at ee2
  obtain ⟨e3, ee3, ie3, c9⟩ := rMulK ee2 ee2
  obtain ⟨d3, ed3, id3, c10⟩ := rAddK ed2 ed2
  obtain ⟨x3, ex3, ix3, c11⟩ := rSubK ee3 ed3
  obtain ⟨k1, ek1, ik1, c12⟩ := rAddK ecc ecc
  obtain ⟨k2, ek2, ik2, c13⟩ := rAddK ek1 ek1
  obtain ⟨k3, ek3, ik3, c14⟩ := rAddK ek2 ek2
  obtain ⟨g1, eg1, ig1, c15⟩ := rSubK ed2 ex3
  obtain ⟨g2, eg2, ig2, c16⟩ := rMulK ee2 eg1
  obtain ⟨y3, ey3, iy3, c17⟩ := rSubK eg2 ek3
  obtain ⟨z1, ez1, iz1, c18⟩ := rMulK hy hz
  obtain ⟨z3, ez3, iz3, c19⟩ := rAddK ez1 ez1
  have e1 : tw (a, b, c) = _ := if_neg hc
  have ef : farV (tw (a, b, c)) = .agg (farC x3 y3 z3) := by rw [e1, ex3, ey3, ez3]; rfl
  conv => whnf
  refine hK1 _ _ ?_
  clear hK1 hR1
  refine swp_cut fun K hK hR _ => ?_
  conv => whnf
  refine ⟨_, c1, rfl, ?_⟩
  conv => whnf
  refine hK _ _ ?_
  clear hK hR
  refine swp_cut fun K hK hR _ => ?_
  conv => whnf
  refine ⟨_, c2, rfl, ?_⟩
  conv => whnf
  refine hK _ _ ?_
  clear hK hR
  refine swp_cut fun K hK hR _ => ?_
  conv => whnf
  refine ⟨_, c3, rfl, ?_⟩
  conv => whnf
  refine hK _ _ ?_
  clear hK hR
  refine swp_cut fun K hK hR _ => ?_
  conv => whnf
  refine ⟨_, c4, rfl, ?_⟩
  conv => whnf
  refine hK _ _ ?_
  clear hK hR
  refine swp_cut fun K hK hR _ => ?_
  conv => whnf
  refine ⟨_, c5, rfl, ?_⟩
  conv => whnf
  refine ⟨_, c5, rfl, ?_⟩
  conv => whnf
  refine ⟨_, c6, rfl, ?_⟩
  conv => whnf
  refine hK _ _ ?_
  clear hK hR
  refine swp_cut fun K hK hR _ => ?_
  conv => whnf
  refine ⟨_, c7, rfl, ?_⟩
  conv => whnf
  refine ⟨_, c8, rfl, ?_⟩
  conv => whnf
  refine hK _ _ ?_
  clear hK hR
  refine swp_cut fun K hK hR _ => ?_
  conv => whnf
  refine ⟨_, c9, rfl, ?_⟩
  conv => whnf
  refine ⟨_, c10, rfl, ?_⟩
  conv => whnf
  refine ⟨_, c11, rfl, ?_⟩
  conv => whnf
  refine hK _ _ ?_
  clear hK hR
  refine swp_cut fun K hK hR _ => ?_
  conv => whnf
  refine ⟨_, c12, rfl, ?_⟩
  conv => whnf
  refine hK _ _ ?_
  clear hK hR
  refine swp_cut fun K hK hR _ => ?_
  conv => whnf
  refine ⟨_, c13, rfl, ?_⟩
  conv => whnf
  refine hK _ _ ?_
  clear hK hR
  refine swp_cut fun K hK hR _ => ?_
  conv => whnf
  refine ⟨_, c14, rfl, ?_⟩
  conv => whnf
  refine hK _ _ ?_
  clear hK hR
  refine swp_cut fun K hK hR _ => ?_
  conv => whnf
  refine ⟨_, c15, rfl, ?_⟩
  conv => whnf
  refine ⟨_, c16, rfl, ?_⟩
  conv => whnf
  refine ⟨_, c17, rfl, ?_⟩
  conv => whnf
  refine hK _ _ ?_
  clear hK hR
  refine swp_cut fun K hK hR _ => ?_
  conv => whnf
  refine ⟨_, c18, rfl, ?_⟩
  conv => whnf
  refine hK _ _ ?_
  clear hK hR
  refine swp_cut fun K hK hR _ => ?_
  conv => whnf
  refine ⟨_, c19, rfl, ?_⟩
  conv => whnf
  refine hK _ _ ?_
  clear hK hR
  conv => whnf
  intro c2 N2 _ _
  rw [ef]
  rfl

set_option maxRecDepth 100000 in
theorem r5plus_fn (T : KK × KK × KK) {p q : KK} {x2 y2 : Int} (hx2 : x2 = vK p) (hy2 : y2 = vK q) : Ev.Fn PG f_ref05_plus [farV T, W x2, W y2] (farV (pl T (p, q, 1))) := by
 refine fn_startH (fun _ => none) h_ref05_plus rfl (by kernel_rfl) (fun _ => by kernel_rfl) rfl (by kernel_rfl) fun A => ?_
 obtain ⟨a, b, c⟩ := T
 obtain ⟨x, hx, hxi⟩ := vK_nm a
 obtain ⟨y, hy, hyi⟩ := vK_nm b
 obtain ⟨z, hz, hzi⟩ := vK_nm c
 have e0 := farV_eq hx hy hz
 have s1 := refSmall_fn (n := 1) ⟨by omega, by omega⟩
 have tf := r5twice_fn (a, b, c)
 rw [e0] at tf
 rw [e0]
 refine swp_cut fun K hK hR _ => ?_
 conv => whnf
 refine hK _ _ ?_
 clear hK hR
 refine swp_cut fun K1 hK1 hR1 _ => swp_cut fun K hK hR _ => ?_
 conv => whnf
 refine hK _ _ ?_
 clear hK hR
 conv => whnf
 rw [weq0 hzi]
 by_cases hc : c = 0
 ·rw [dec0 hz hc]
  conv => whnf
  refine ⟨_, s1, rfl, ?_⟩
  conv => whnf
  refine hR1 _ _ ?_
  conv => whnf
  intro c2 N2 _ _
  rw [pl_one0 hc, farV_eq hx2 hy2 (show (1 : Int) = vK 1 from rfl)]
  rfl
 ·rw [dec1 hz hc]
  obtain ⟨zz, ezz, izz, c1⟩ := rMulK hz hz
  obtain ⟨u, eu, iu, c2⟩ := rMulK hx2 ezz
  obtain ⟨z3, ez3, iz3, c3⟩ := rMulK ezz hz
  obtain ⟨s, es, is, c4⟩ := rMulK hy2 ez3
  have w1 := weq iu hxi
  rw [decK eu hx] at w1
  have w2 := weq is hyi
  rw [decK es hy] at w2
  conv => whnf
  refine hK1 _ _ ?_
  clear hK1 hR1
  refine swp_cut fun K hK hR _ => ?_
  conv => whnf
  refine ⟨_, c1, rfl, ?_⟩
  conv => whnf
  refine hK _ _ ?_
  clear hK hR
  refine swp_cut fun K hK hR _ => ?_
  conv => whnf
  refine ⟨_, c2, rfl, ?_⟩
  conv => whnf
  refine hK _ _ ?_
  clear hK hR
  refine swp_cut fun K hK hR _ => ?_
  conv => whnf
  refine ⟨_, c3, rfl, ?_⟩
  conv => whnf
  refine ⟨_, c4, rfl, ?_⟩
  conv => whnf
  refine hK _ _ ?_
  clear hK hR
  refine swp_cut fun K1 hK1 hR1 _ => swp_cut fun K hK hR _ => ?_
  conv => whnf
  refine hK _ _ ?_
  clear hK hR
  conv => whnf
  rw [w1]
  by_cases hh : p * (c * c) = a
  ·rw [decide_eq_true hh]
   conv => whnf
   rw [w2]
   by_cases hr : q * (c * c * c) = b
   ·rw [decide_eq_true hr]
    conv => whnf
    refine ⟨_, tf, rfl, ?_⟩
    conv => whnf
    refine hR1 _ _ ?_
    conv => whnf
    intro c2 N2 _ _
    rw [pl_one1 hc fld.one hh hr]
    rfl
   ·rw [decide_eq_false hr]
    conv => whnf
    refine hR1 _ _ ?_
    conv => whnf
    intro c2 N2 _ _
    rw [pl_one2 hc fld.one hh hr]
    rfl
  ·rw [decide_eq_false hh]
   obtain ⟨h, eh, ih, c5⟩ := rSubK eu hx
   obtain ⟨r, er, ir, c6⟩ := rSubK es hy
   obtain ⟨hh2, ehh, ihh, c7⟩ := rMulK eh eh
   obtain ⟨hhh, ehhh, ihhh, c8⟩ := rMulK eh ehh
   obtain ⟨v, ev, iv, c9⟩ := rMulK hx ehh
   obtain ⟨rr, err, irr, c10⟩ := rMulK er er
   obtain ⟨k1, ek1, ik1, c11⟩ := rSubK err ehhh
   obtain ⟨vv, evv, ivv, c12⟩ := rAddK ev ev
   obtain ⟨x3, ex3, ix3, c13⟩ := rSubK ek1 evv
   obtain ⟨g1, eg1, ig1, c14⟩ := rSubK ev ex3
   obtain ⟨g2, eg2, ig2, c15⟩ := rMulK er eg1
   obtain ⟨g3, eg3, ig3, c16⟩ := rMulK hy ehhh
   obtain ⟨y3, ey3, iy3, c17⟩ := rSubK eg2 eg3
   obtain ⟨z4, ez4, iz4, c18⟩ := rMulK eh hz
   have ef : farV (pl (a, b, c) (p, q, 1)) = .agg (farC x3 y3 z4) := by rw [pl_one hc fld.one hh, ex3, ey3, ez4]; rfl
   conv => whnf
   refine hK1 _ _ ?_
   clear hK1 hR1
   refine swp_cut fun K hK hR _ => ?_
   conv => whnf
   refine ⟨_, c5, rfl, ?_⟩
   conv => whnf
   refine hK _ _ ?_
   clear hK hR
   refine swp_cut fun K hK hR _ => ?_
   conv => whnf
   refine ⟨_, c6, rfl, ?_⟩
   conv => whnf
   refine hK _ _ ?_
   clear hK hR
   refine swp_cut fun K hK hR _ => ?_
   conv => whnf
   refine ⟨_, c7, rfl, ?_⟩
   conv => whnf
   refine hK _ _ ?_
   clear hK hR
   refine swp_cut fun K hK hR _ => ?_
   conv => whnf
   refine ⟨_, c8, rfl, ?_⟩
   conv => whnf
   refine hK _ _ ?_
   clear hK hR
   refine swp_cut fun K hK hR _ => ?_
   conv => whnf
   refine ⟨_, c9, rfl, ?_⟩
   conv => whnf
   refine hK _ _ ?_
   clear hK hR
   refine swp_cut fun K hK hR _ => ?_
   conv => whnf
   refine ⟨_, c10, rfl, ?_⟩
   conv => whnf
   refine ⟨_, c11, rfl, ?_⟩
   conv => whnf
   refine ⟨_, c12, rfl, ?_⟩
   conv => whnf
   refine ⟨_, c13, rfl, ?_⟩
   conv => whnf
   refine hK _ _ ?_
   clear hK hR
   refine swp_cut fun K hK hR _ => ?_
   conv => whnf
   refine ⟨_, c14, rfl, ?_⟩
   conv => whnf
   refine ⟨_, c15, rfl, ?_⟩
   conv => whnf
   refine ⟨_, c16, rfl, ?_⟩
   conv => whnf
   refine ⟨_, c17, rfl, ?_⟩
   conv => whnf
   refine ⟨_, c18, rfl, ?_⟩
   conv => whnf
   refine hK _ _ ?_
   clear hK hR
   conv => whnf
   intro c2 N2 _ _
   rw [ef]
   rfl

end Go.Hv

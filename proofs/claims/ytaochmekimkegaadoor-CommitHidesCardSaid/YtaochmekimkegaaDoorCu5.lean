import Derived.Test.YtaochmekimkegaaDoorCu4
namespace Go.Hv
open Go.Ev Go.Ec

theorem r5mul_fn {x y : Int} (hx : InW x) (hy : InW y) : Ev.Fn PG f_ref05_mul [W x, W y] (W (x * y % pp)) := by
 refine fn_startH (fun _ => none) h_ref05_mul rfl (by kernel_rfl) (fun _ => by kernel_rfl) rfl rfl fun A => ?_
 have c1 := refP_fn
 have c2 := refMul_fn mdP_ok hx hy
 rw [mdP_M] at c2
 refine swp_cut fun K hK hR _ => ?_
 conv => whnf
 refine hK _ _ ?_
 clear hK hR
 refine swp_cut fun K hK hR _ => ?_
 conv => whnf
 refine ⟨_, c1, rfl, ?_⟩
 conv => whnf
 refine ⟨_, c2, rfl, ?_⟩
 conv => whnf
 refine hK _ _ ?_
 clear hK hR
 conv => whnf
 intro c N2 _ _
 rfl
theorem r5add_fn {x y : Int} (hx : InW x) (hy : InW y) : Ev.Fn PG f_ref05_add [W x, W y] (W ((x + y) % pp)) := by
 refine fn_startH (fun _ => none) h_ref05_add rfl (by kernel_rfl) (fun _ => by kernel_rfl) rfl rfl fun A => ?_
 have c1 := refP_fn
 have c2 := refAdd_fn mdP_ok hx hy
 rw [mdP_M] at c2
 refine swp_cut fun K hK hR _ => ?_
 conv => whnf
 refine hK _ _ ?_
 clear hK hR
 refine swp_cut fun K hK hR _ => ?_
 conv => whnf
 refine ⟨_, c1, rfl, ?_⟩
 conv => whnf
 refine ⟨_, c2, rfl, ?_⟩
 conv => whnf
 refine hK _ _ ?_
 clear hK hR
 conv => whnf
 intro c N2 _ _
 rfl
theorem r5sub_fn {x y : Int} (hx : InW x) (hy : InW y) : Ev.Fn PG f_ref05_sub [W x, W y] (W ((x - y) % pp)) := by
 refine fn_startH (fun _ => none) h_ref05_sub rfl (by kernel_rfl) (fun _ => by kernel_rfl) rfl rfl fun A => ?_
 have c1 := refP_fn
 have c2 := refSub_fn mdP_ok hx hy
 rw [mdP_M] at c2
 refine swp_cut fun K hK hR _ => ?_
 conv => whnf
 refine hK _ _ ?_
 clear hK hR
 refine swp_cut fun K hK hR _ => ?_
 conv => whnf
 refine ⟨_, c1, rfl, ?_⟩
 conv => whnf
 refine ⟨_, c2, rfl, ?_⟩
 conv => whnf
 refine hK _ _ ?_
 clear hK hR
 conv => whnf
 intro c N2 _ _
 rfl

theorem rMulK {a b : KK} {x y : Int} (hx : x = vK a) (hy : y = vK b) : ∃ z, z = vK (a * b) ∧ InW z ∧ Ev.Fn PG f_ref05_mul [W x, W y] (W z) := by
 subst hx hy
 have h := r5mul_fn (vK_in a) (vK_in b)
 rw [mulK] at h
 exact ⟨_, rfl, vK_in _, h⟩
theorem rAddK {a b : KK} {x y : Int} (hx : x = vK a) (hy : y = vK b) : ∃ z, z = vK (a + b) ∧ InW z ∧ Ev.Fn PG f_ref05_add [W x, W y] (W z) := by
 subst hx hy
 have h := r5add_fn (vK_in a) (vK_in b)
 rw [addK] at h
 exact ⟨_, rfl, vK_in _, h⟩
theorem rSubK {a b : KK} {x y : Int} (hx : x = vK a) (hy : y = vK b) : ∃ z, z = vK (a - b) ∧ InW z ∧ Ev.Fn PG f_ref05_sub [W x, W y] (W z) := by
 subst hx hy
 have h := r5sub_fn (vK_in a) (vK_in b)
 rw [subK] at h
 exact ⟨_, rfl, vK_in _, h⟩
theorem rNegK {a : KK} {x : Int} (hx : x = vK a) : ∃ z, z = vK (-a) ∧ InW z ∧ Ev.Fn PG f_ref03_Neg [mdP.tv, W x] (W z) := by
 subst hx
 have h := refNeg_fn mdP_ok (vK_in a)
 rw [mdP_M, negK] at h
 exact ⟨_, rfl, vK_in _, h⟩
theorem rInvK {a : KK} {x : Int} (hx : x = vK a) : ∃ z, z = vK (kinv a) ∧ InW z ∧ Ev.Fn PG f_ref03_Inv [mdP.tv, W x] (W z) := by
 subst hx
 have h := refInv_fn mdP_ok (vK_in a)
 rw [mdP_M, invK] at h
 exact ⟨_, rfl, vK_in _, h⟩
theorem rMulT {x y : Int} (hx : InW x) (hy : InW y) : ∃ z, z = vK (toK x * toK y) ∧ InW z ∧ Ev.Fn PG f_ref05_mul [W x, W y] (W z) :=
 ⟨_, by rw [← toK_mul, vK_toK], inQ _, r5mul_fn hx hy⟩
theorem rMulT2 {a : KK} {x y : Int} (hx : InW x) (hy : y = vK a) : ∃ z, z = vK (toK x * a) ∧ InW z ∧ Ev.Fn PG f_ref05_mul [W x, W y] (W z) := by
 subst hy
 have h := r5mul_fn hx (vK_in a)
 have e : x * vK a % pp = vK (toK x * a) := by rw [← vK_toK, toK_mul, toK_vK]
 rw [e] at h
 exact ⟨_, rfl, vK_in _, h⟩

theorem r3Right_fn {D : MD} (hD : D.Ok) {x : Int} (hx : InW x) : Ev.Fn PG f_ref03_Right [D.tv, W x] (.one (.bool (decide (x < D.M)))) := by
 refine fn_startH (fun _ => none) h_ref03_Right rfl (by kernel_rfl) (fun _ => by kernel_rfl) rfl rfl fun A => ?_
 have c1 := refBelow_fn hx hD.inW
 have hw : W D.M = .agg [u D.m0, u D.m1, u D.m2, u D.m3] := by unfold W; rw [hD.words]
 rw [hw] at c1
 refine swp_cut fun K hK hR _ => ?_
 conv => whnf
 refine hK _ _ ?_
 clear hK hR
 refine swp_cut fun K hK hR _ => ?_
 conv => whnf
 refine ⟨_, c1, rfl, ?_⟩
 conv => whnf
 refine hK _ _ ?_
 clear hK hR
 conv => whnf
 intro c N2 _ _
 rfl

end Go.Hv
namespace Go.Ec
section
variable {p : Nat} [NeZero p]
theorem alg_cube (x : Fin p) : x * (x * x) + 7 = x * x * x + 7 := by grind
end
end Go.Ec
namespace Go.Hv
open Go.Ev Go.Ec

theorem r5cube_fn {x : Int} (hx : InW x) : ∃ z, z = vK (toK x * toK x * toK x + 7) ∧ InW z ∧ Ev.Fn PG f_ref05_cube [W x] (W z) := by
 obtain ⟨x2, e2, i2, c1⟩ := rMulT hx hx
 obtain ⟨x3, e3, i3, c2⟩ := rMulT2 hx e2
 obtain ⟨x4, e4, i4, c3⟩ := rAddK e3 seven_K
 have c4 := refSmall_fn (n := 7) ⟨by omega, by omega⟩
 rw [alg_cube] at e4
 refine ⟨x4, e4, i4, ?_⟩
 refine fn_startH (fun _ => none) h_ref05_cube rfl (by kernel_rfl) (fun _ => by kernel_rfl) rfl rfl fun A => ?_
 refine swp_cut fun K hK hR _ => ?_
 conv => whnf
 refine hK _ _ ?_
 clear hK hR
 refine swp_cut fun K hK hR _ => ?_
 conv => whnf
 refine ⟨_, c1, rfl, ?_⟩
 conv => whnf
 refine ⟨_, c2, rfl, ?_⟩
 conv => whnf
 refine ⟨_, c4, rfl, ?_⟩
 conv => whnf
 refine ⟨_, c3, rfl, ?_⟩
 conv => whnf
 refine hK _ _ ?_
 clear hK hR
 conv => whnf
 intro c N2 _ _
 rfl

theorem r5zero_fn : Ev.Fn PG f_ref05_Zero [] (ptV 0 0 true) := by
 refine fn_startH (fun _ => none) h_ref05_Zero rfl (by kernel_rfl) (fun _ => by kernel_rfl) rfl rfl fun A => ?_
 conv => whnf
 intro c N2 _ _
 rfl

theorem r5base_fn : Ev.Fn PG f_ref05_Base [] (ptOf gP) := by
 refine fn_startH (fun _ => none) h_ref05_Base rfl (by kernel_rfl) (fun _ => by kernel_rfl) rfl (ptOf_closed _) fun A => ?_
 conv => whnf
 intro c N2 _ _
 kernel_rfl

theorem lt_mod {x : Int} (hx : InW x) : decide (x < pp) = decide (x % pp = x) := by
 have : (x < pp) ↔ (x % pp = x) := by unfold pp; omega
 simp only [this]

set_option maxRecDepth 100000 in
theorem r5Right_fn {x y : Int} {b : Bool} (hx : InW x) (hy : InW y) : Ev.Fn PG f_ref05_Right [ptV x y b] (.one (.bool (rightP x y b))) := by
 refine fn_startH (fun _ => none) h_ref05_Right rfl (by kernel_rfl) (fun _ => by kernel_rfl) rfl rfl fun A => ?_
 have c0 := r5zero_fn
 have c5 := refP_fn
 have c6 := refOf_fn x
 have c7 := refOf_fn y
 have c1 := r3Right_fn mdP_ok hx
 have c2 := r3Right_fn mdP_ok hy
 rw [mdP_M, lt_mod hx] at c1
 rw [mdP_M, lt_mod hy] at c2
 obtain ⟨y2, ey2, iy2, c3⟩ := rMulT hy hy
 obtain ⟨x3, ex3, ix3, c4⟩ := r5cube_fn hx
 have w3 := weq iy2 ix3
 rw [decK ey2 ex3] at w3
 refine swp_cut fun K hK hR _ => ?_
 conv => whnf
 refine hK _ _ ?_
 clear hK hR
 refine swp_cut fun K1 hK1 hR1 _ => swp_cut fun K hK hR _ => ?_
 conv => whnf
 refine hK _ _ ?_
 clear hK hR
 conv => whnf
 cases b with
 | true =>
  conv => whnf
  refine ⟨_, c0, rfl, ?_⟩
  conv => whnf
  rw [peq hx hy (x' := 0) (y' := 0) ⟨by omega, by omega⟩ ⟨by omega, by omega⟩]
  refine hR1 _ _ ?_
  conv => whnf
  intro c N2 _ _
  unfold rightP
  simp only [beq_self_eq_true, Bool.and_true]
  rfl
 | false =>
  conv => whnf
  refine hK1 _ _ ?_
  clear hK1 hR1
  cases h1 : decide (x % pp = x) <;> cases h2 : decide (y % pp = y) <;> cases h3 : decide (toK y * toK y = toK x * toK x * toK x + (7 : KK))
  all_goals
   rw [h1] at c1
   rw [h2] at c2
   rw [h3] at w3
   refine swp_cut fun K hK hR _ => ?_
   conv => whnf
   refine ⟨_, c6, rfl, ?_⟩
   conv => whnf
   refine hK _ _ ?_
   clear hK hR
   refine swp_cut fun K hK hR _ => ?_
   conv => whnf
   refine ⟨_, c7, rfl, ?_⟩
   conv => whnf
   refine hK _ _ ?_
   clear hK hR
   refine swp_cut fun K hK hR _ => ?_
   conv => whnf
   refine ⟨_, c5, rfl, ?_⟩
   conv => whnf
   refine hK _ _ ?_
   clear hK hR
   refine swp_cut fun K hK hR _ => ?_
   conv => whnf
   refine ⟨_, c1, rfl, ?_⟩
   conv => whnf
   refine hK _ _ ?_
   clear hK hR
   refine swp_cut fun K hK hR _ => ?_
   conv => whnf
   refine ⟨_, c2, rfl, ?_⟩
   conv => whnf
   refine hK _ _ ?_
   clear hK hR
   refine swp_cut fun K hK hR _ => ?_
   repeat (refine aops_step fun T S hT hS => ?_; (conv => whnf); (try rw [w3]); first | refine hT _ _ ?_ | refine hS ?_ | (refine ⟨_, c3, rfl, ?_⟩; refine hT _ _ ?_) | (refine ⟨_, c4, rfl, ?_⟩; refine hT _ _ ?_))
   refine aops_end ?_
   refine hK _ _ ?_
   conv => whnf
   intro c N2 _ _
   unfold rightP
   simp only [h1, h2, h3]
   rfl

set_option maxRecDepth 100000 in
theorem taken_fn {x y : Int} {b : Bool} (hx : InW x) (hy : InW y) : Ev.Fn PG f_ref05_Taken [ptV x y b] (ptOf (tkn x y b)) := by
 refine fn_startH (fun _ => none) h_ref05_Taken rfl (by kernel_rfl) (fun _ => by kernel_rfl) rfl (ptOf_closed _) fun A => ?_
 have c0 := r5zero_fn
 have c1 := r5Right_fn (b := b) hx hy
 cases hr : rightP x y b with
 | false =>
  rw [hr] at c1
  have e : tkn x y b = none := by
   cases b with
   | true => rfl
   | false => unfold tkn; simp only [hr]
  refine swp_cut fun K hK hR _ => ?_
  conv => whnf
  refine hK _ _ ?_
  clear hK hR
  refine swp_cut fun K hK hR _ => ?_
  conv => whnf
  refine ⟨_, c1, rfl, ?_⟩
  conv => whnf
  refine hK _ _ ?_
  clear hK hR
  refine swp_cut fun K1 hK1 hR1 _ => swp_cut fun K hK hR _ => ?_
  conv => whnf
  refine hK _ _ ?_
  clear hK hR
  conv => whnf
  conv => whnf
  refine ⟨_, c0, rfl, ?_⟩
  conv => whnf
  refine hR1 _ _ ?_
  conv => whnf
  intro c N2 _ _
  rw [e]
  rfl
 | true =>
  rw [hr] at c1
  have e : ptOf (tkn x y b) = ptV x y b := by
   cases b with
   | true =>
    simp only [rightP, Bool.and_eq_true, decide_eq_true_eq] at hr
    obtain ⟨rfl, rfl⟩ := hr
    rfl
   | false =>
    obtain ⟨g1, g2⟩ := rightP_K hr
    unfold tkn
    simp only [hr]
    show ptV (vK (toK x)) (vK (toK y)) false = _
    rw [← g1, ← g2]
  refine swp_cut fun K hK hR _ => ?_
  conv => whnf
  refine hK _ _ ?_
  clear hK hR
  refine swp_cut fun K hK hR _ => ?_
  conv => whnf
  refine ⟨_, c1, rfl, ?_⟩
  conv => whnf
  refine hK _ _ ?_
  clear hK hR
  refine swp_cut fun K1 hK1 hR1 _ => swp_cut fun K hK hR _ => ?_
  conv => whnf
  refine hK _ _ ?_
  clear hK hR
  conv => whnf
  conv => whnf
  refine hK1 _ _ ?_
  clear hK1 hR1
  refine swp_cut fun K hK hR _ => ?_
  conv => whnf
  refine hK _ _ ?_
  clear hK hR
  conv => whnf
  intro c N2 _ _
  rw [e]
  rfl

end Go.Hv

import Derived.Test.YthmdbgdagnhheaaDoorCu2
namespace Go.Hv
open Go.Ev Go.Ec

def ptC (x y : Int) (b : Bool) : List Sc := words x ++ (words y ++ [.bool b])
def ptV (x y : Int) (b : Bool) : TV := .agg (ptC x y b)

theorem feMulT {x y : Int} (hx : InW x) (hy : InW y) : ∃ z, z = vK (toK x * toK y) ∧ InW z ∧ Ev.Fn PG f_fe_Mul [W x, W y] (W z) :=
 ⟨_, by rw [← toK_mul, vK_toK], inQ _, feMul_fn hx hy⟩
theorem feMulT2 {a : KK} {x y : Int} (hx : x = vK a) (hy : InW y) : ∃ z, z = vK (a * toK y) ∧ InW z ∧ Ev.Fn PG f_fe_Mul [W x, W y] (W z) := by
 subst hx
 have h := feMul_fn (vK_in a) hy
 have e : vK a * y % pp = vK (a * toK y) := by rw [← vK_toK, toK_mul, toK_vK]
 rw [e] at h
 exact ⟨_, rfl, vK_in _, h⟩

theorem seven_fn : Ev.Fn PG f_curve_seven [] (W 7) := by
 refine fn_startH (fun _ => none) h_curve_seven rfl (by kernel_rfl) (fun _ => by kernel_rfl) rfl rfl fun A => ?_
 have c1 := feOf_fn (n := 7) ⟨by omega, by omega⟩
 conv => whnf
 refine ⟨_, c1, rfl, ?_⟩
 conv => whnf
 intro c N2 _ _
 rfl

theorem seven_K : (7 : Int) = vK 7 := rfl

theorem cube_fn {x : Int} (hx : InW x) : ∃ z, z = vK (toK x * toK x * toK x + 7) ∧ InW z ∧ Ev.Fn PG f_curve_cube [W x] (W z) := by
 obtain ⟨x2, e2, i2, c1⟩ := feMulT hx hx
 obtain ⟨x3, e3, i3, c2⟩ := feMulT2 e2 hx
 obtain ⟨x4, e4, i4, c3⟩ := feAddK e3 seven_K
 have c4 := seven_fn
 refine ⟨x4, e4, i4, ?_⟩
 refine fn_startH (fun _ => none) h_curve_cube rfl (by kernel_rfl) (fun _ => by kernel_rfl) rfl rfl fun A => ?_
 refine swp_cut fun K hK hR _ => ?_
 conv => whnf
 refine hK _ _ ?_
 clear hK hR
 refine swp_cut fun K hK hR _ => ?_
 conv => whnf
 refine ⟨_, c1, rfl, ?_⟩
 conv => whnf
 refine ⟨_, c2, rfl, ?_⟩
 conv => whnf
 refine ⟨_, c4, rfl, ?_⟩
 conv => whnf
 refine ⟨_, c3, rfl, ?_⟩
 conv => whnf
 refine hK _ _ ?_
 clear hK hR
 conv => whnf
 intro c N2 _ _
 rfl

theorem weqR {x y : Int} (hx : InW x) (hy : InW y) (r : Bool) : ((x % 18446744073709551616 == y % 18446744073709551616) &&
  ((x / 18446744073709551616 % 18446744073709551616 == y / 18446744073709551616 % 18446744073709551616) &&
   ((x / 340282366920938463463374607431768211456 % 18446744073709551616 == y / 340282366920938463463374607431768211456 % 18446744073709551616) &&
    ((x / 6277101735386680763835789423207666416102355444464034512896 % 18446744073709551616 == y / 6277101735386680763835789423207666416102355444464034512896 % 18446744073709551616) && r)))) = (decide (x = y) && r) := by
 cases r with
 | true => rw [weq hx hy, Bool.and_true]
 | false => simp only [Bool.and_false]

theorem peq {x y x' y' : Int} (hx : InW x) (hy : InW y) (hx' : InW x') (hy' : InW y') (r : Bool) : ((x % 18446744073709551616 == x' % 18446744073709551616) &&
  ((x / 18446744073709551616 % 18446744073709551616 == x' / 18446744073709551616 % 18446744073709551616) &&
   ((x / 340282366920938463463374607431768211456 % 18446744073709551616 == x' / 340282366920938463463374607431768211456 % 18446744073709551616) &&
    ((x / 6277101735386680763835789423207666416102355444464034512896 % 18446744073709551616 == x' / 6277101735386680763835789423207666416102355444464034512896 % 18446744073709551616) &&
 ((y % 18446744073709551616 == y' % 18446744073709551616) &&
  ((y / 18446744073709551616 % 18446744073709551616 == y' / 18446744073709551616 % 18446744073709551616) &&
   ((y / 340282366920938463463374607431768211456 % 18446744073709551616 == y' / 340282366920938463463374607431768211456 % 18446744073709551616) &&
    ((y / 6277101735386680763835789423207666416102355444464034512896 % 18446744073709551616 == y' / 6277101735386680763835789423207666416102355444464034512896 % 18446744073709551616) && r)))))))) = (decide (x = x') && (decide (y = y') && r)) := by
 rw [weqR hx hx', weqR hy hy']

theorem peq0 {x y : Int} (hx : InW x) (hy : InW y) (r : Bool) : ((x % 18446744073709551616 == 0) &&
  ((x / 18446744073709551616 % 18446744073709551616 == 0) &&
   ((x / 340282366920938463463374607431768211456 % 18446744073709551616 == 0) &&
    ((x / 6277101735386680763835789423207666416102355444464034512896 % 18446744073709551616 == 0) &&
 ((y % 18446744073709551616 == 0) &&
  ((y / 18446744073709551616 % 18446744073709551616 == 0) &&
   ((y / 340282366920938463463374607431768211456 % 18446744073709551616 == 0) &&
    ((y / 6277101735386680763835789423207666416102355444464034512896 % 18446744073709551616 == 0) && r)))))))) = (decide (x = 0) && (decide (y = 0) && r)) :=
 peq (x' := 0) (y' := 0) hx hy ⟨by omega, by omega⟩ ⟨by omega, by omega⟩ r

def rightP (x y : Int) (b : Bool) : Bool :=
 match b with
 | true => decide (x = 0) && decide (y = 0)
 | false => decide (x % pp = x) && (decide (y % pp = y) && decide (toK y * toK y = toK x * toK x * toK x + (7 : KK)))

def tkn (x y : Int) (b : Bool) : Pt PPn :=
 match b with
 | true => none
 | false => match rightP x y false with
  | true => some (toK x, toK y)
  | false => none

theorem tkn_on (x y : Int) (b : Bool) : On (tkn x y b) := by
 unfold tkn
 split
 ·trivial
 ·split
  ·rename_i h
   simp only [rightP, Bool.and_eq_true, decide_eq_true_eq] at h
   exact h.2.2
  ·trivial

theorem zero_fn : Ev.Fn PG f_curve_Zero [] (ptV 0 0 true) := by
 refine fn_startH (fun _ => none) h_curve_Zero rfl (by kernel_rfl) (fun _ => by kernel_rfl) rfl rfl fun A => ?_
 conv => whnf
 intro c N2 _ _
 rfl

set_option maxRecDepth 100000 in
theorem cRight_fn {x y : Int} {b : Bool} (hx : InW x) (hy : InW y) : Ev.Fn PG f_curve_Right [ptV x y b] (.one (.bool (rightP x y b))) := by
 refine fn_startH (fun _ => none) h_curve_Right rfl (by kernel_rfl) (fun _ => by kernel_rfl) rfl rfl fun A => ?_
 have c0 := zero_fn
 have c1 := norm_fn hx
 have c2 := norm_fn hy
 obtain ⟨y2, ey2, iy2, c3⟩ := feMulT hy hy
 obtain ⟨x3, ex3, ix3, c4⟩ := cube_fn hx
 have w1 := weq (inQ x) hx
 have w2 := weq (inQ y) hy
 have w3 := weq iy2 ix3
 rw [decK ey2 ex3] at w3
 refine swp_cut fun K hK hR _ => ?_
 conv => whnf
 refine hK _ _ ?_
 clear hK hR
 refine swp_cut fun K1 hK1 hR1 _ => swp_cut fun K hK hR _ => ?_
 conv => whnf
 refine hK _ _ ?_
 clear hK hR
 conv => whnf
 cases b with
 | true =>
  conv => whnf
  refine ⟨_, c0, rfl, ?_⟩
  conv => whnf
  rw [peq hx hy (x' := 0) (y' := 0) ⟨by omega, by omega⟩ ⟨by omega, by omega⟩]
  refine hR1 _ _ ?_
  conv => whnf
  intro c N2 _ _
  unfold rightP
  simp only [beq_self_eq_true, Bool.and_true]
  rfl
 | false =>
  conv => whnf
  refine hK1 _ _ ?_
  clear hK1 hR1
  cases h1 : decide (x % pp = x) <;> cases h2 : decide (y % pp = y) <;> cases h3 : decide (toK y * toK y = toK x * toK x * toK x + (7 : KK))
  all_goals
   rw [h1] at w1
   rw [h2] at w2
   rw [h3] at w3
   refine swp_cut fun K hK hR _ => ?_
   repeat (refine aops_step fun T S hT hS => ?_; (conv => whnf); (try rw [w1]); (try rw [w2]); (try rw [w3]); first | refine hT _ _ ?_ | refine hS ?_ | (refine ⟨_, c1, rfl, ?_⟩; refine hT _ _ ?_) | (refine ⟨_, c2, rfl, ?_⟩; refine hT _ _ ?_) | (refine ⟨_, c3, rfl, ?_⟩; refine hT _ _ ?_) | (refine ⟨_, c4, rfl, ?_⟩; refine hT _ _ ?_))
   refine aops_end ?_
   refine hK _ _ ?_
   conv => whnf
   intro c N2 _ _
   unfold rightP
   simp only [h1, h2, h3]
   rfl

end Go.Hv

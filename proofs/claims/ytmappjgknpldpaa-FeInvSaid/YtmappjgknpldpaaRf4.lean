import Derived.Test.YtmappjgknpldpaaRf3
namespace Go.Ev

theorem refAdd_fn {D : MD} (hD : D.Ok) {x y : Int} (hx : InW x) (hy : InW y) : Fn PG f_ref03_Add [D.tv, W x, W y] (W ((x + y) % D.M)) := by
  obtain ⟨a0, a1, a2, a3, h0, h1, h2, h3, rfl⟩ := split4 hx
  obtain ⟨b0, b1, b2, b3, g0, g1, g2, g3, rfl⟩ := split4 hy
  simp only [W, words_val h0 h1 h2 h3, words_val g0 g1 g2 g3]
  have z0 : InU 0 := ⟨by omega, by omega⟩
  refine fn_go h_ref03_Add rfl (by kernel_rfl) (fun _ => by kernel_rfl) rfl rfl fun W0 => ?_
  conv => whnf
  refine .inl ⟨5, ?_⟩
  conv => whnf
  refine ⟨by omega, ?_⟩
  intro s0 c0 e0 l0 u0 p0
  conv => whnf
  refine ⟨by omega, ?_⟩
  intro s1 c1 e1 l1 u1 p1
  conv => whnf
  refine ⟨by omega, ?_⟩
  intro s2 c2 e2 l2 u2 p2
  conv => whnf
  refine ⟨by omega, ?_⟩
  intro s3 c3 e3 l3 u3 p3
  conv => whnf
  have hs : val a0 a1 a2 a3 + val b0 b1 b2 b3 = val8 s0 s1 s2 s3 c3 0 0 0 := by unfold val8 val; omega
  have hf := refFold_fn hD (w0 := s0) (w1 := s1) (w2 := s2) (w3 := s3) (w4 := c3) (w5 := 0) (w6 := 0) (w7 := 0) ⟨⟨l0, u0⟩, ⟨l1, u1⟩, ⟨l2, u2⟩, ⟨l3, u3⟩, ⟨by omega, by omega⟩, z0, z0, z0⟩
  refine ⟨_, hf.2 _ _, rfl, ?_⟩
  conv => whnf
  rw [hs]
  rfl

theorem refNeg_fn {D : MD} (hD : D.Ok) {x : Int} (hx : InW x) : Fn PG f_ref03_Neg [D.tv, W x] (W (-x % D.M)) := by
  refine fn_go h_ref03_Neg rfl (by kernel_rfl) (fun _ => by kernel_rfl) rfl rfl fun W0 => ?_
  have hM := hD.inW
  have hw : W D.M = .agg [u D.m0, u D.m1, u D.m2, u D.m3] := by unfold W; rw [hD.words]
  have hb := hD.big
  have hr : 0 ≤ x % D.M ∧ x % D.M < D.M := ⟨Int.emod_nonneg _ (by omega), Int.emod_lt_of_pos _ (by omega)⟩
  have hi : InW (x % D.M) := ⟨by omega, by omega⟩
  have hmin := refMinus_fn hM hi
  rw [hw] at hmin
  have e : (D.M - x % D.M) % 115792089237316195423570985008687907853269984665640564039457584007913129639936 = D.M - x % D.M := Int.emod_eq_of_lt (by omega) (by omega)
  rw [e] at hmin
  have hN2 := refNorm_fn hD (x := D.M - x % D.M) ⟨by omega, by omega⟩
  have e2 : (D.M - x % D.M) % D.M = -x % D.M := by
    have : D.M - x % D.M = -x + D.M * (x / D.M + 1) := by
      rw [Int.mul_add, Int.mul_one, Int.emod_def]
      omega
    rw [this, Int.add_mul_emod_self_left]
  rw [e2] at hN2
  conv => whnf
  refine ⟨_, (refNorm_fn hD hx).2 _ _, rfl, ?_⟩
  conv => whnf
  refine ⟨_, hmin.2 _ _, rfl, ?_⟩
  conv => whnf
  refine ⟨_, hN2.2 _ _, rfl, ?_⟩
  conv => whnf
  rfl

theorem MD.Ok.mod {D : MD} (hD : D.Ok) (x : Int) : InW (x % D.M) := by
  have hM := hD.inW
  have hb := hD.big
  have hr : 0 ≤ x % D.M ∧ x % D.M < D.M := ⟨Int.emod_nonneg _ (by omega), Int.emod_lt_of_pos _ (by omega)⟩
  exact ⟨by omega, by omega⟩

theorem refSub_fn {D : MD} (hD : D.Ok) {x y : Int} (hx : InW x) (hy : InW y) : Fn PG f_ref03_Sub [D.tv, W x, W y] (W ((x - y) % D.M)) := by
  refine fn_go h_ref03_Sub rfl (by kernel_rfl) (fun _ => by kernel_rfl) rfl rfl fun W0 => ?_
  have ha := refAdd_fn hD hx (hD.mod (-y))
  rw [Int.add_emod_emod, ← Int.sub_eq_add_neg] at ha
  conv => whnf
  refine ⟨_, (refNeg_fn hD hy).2 _ _, rfl, ?_⟩
  conv => whnf
  refine ⟨_, ha.2 _ _, rfl, ?_⟩
  conv => whnf
  rfl

theorem mulrow {w0 w1 w2 w3 a b0 b1 b2 b3 y0 y1 y2 y3 q0 q1 q2 q3 : Int} (d0 : y0 + 18446744073709551616 * q0 = w0 + 0 + a * b0) (d1 : y1 + 18446744073709551616 * q1 = w1 + q0 + a * b1) (d2 : y2 + 18446744073709551616 * q2 = w2 + q1 + a * b2) (d3 : y3 + 18446744073709551616 * q3 = w3 + q2 + a * b3) :
    val y0 y1 y2 y3 + 115792089237316195423570985008687907853269984665640564039457584007913129639936 * q3 = val w0 w1 w2 w3 + a * val b0 b1 b2 b3 := by
  have e : a * val b0 b1 b2 b3 = a * b0 + 18446744073709551616 * (a * b1) + 340282366920938463463374607431768211456 * (a * b2) + 6277101735386680763835789423207666416102355444464034512896 * (a * b3) := by
    rw [Int.mul_comm a, val_mul, Int.mul_comm b0, Int.mul_comm b1, Int.mul_comm b2, Int.mul_comm b3]
  rw [e]
  generalize a * b0 = P0 at *
  generalize a * b1 = P1 at *
  generalize a * b2 = P2 at *
  generalize a * b3 = P3 at *
  unfold val
  omega

theorem wr_eq {x q : Int} (h : x % 18446744073709551616 = q) : wr .u64 x = u q := congrArg (Sc.int .u64) h


def ap (a0 a1 a2 a3 : Int) : Nat → Int
  | 0 => 0
  | 1 => a0
  | 2 => a0 + 18446744073709551616 * a1
  | 3 => a0 + 18446744073709551616 * a1 + 340282366920938463463374607431768211456 * a2
  | _ => val a0 a1 a2 a3

def mulEnv (i : Nat) : Env := [(8, .one (.int .i64 i)), (7, .one (.ptr (some (.loc 4 0)))), (6, .one (.ptr (some (.loc 3 0)))), (5, .one (.ptr (some (.loc 2 0)))), (4, .one (.ptr (some (.loc 1 0)))), (3, .one (.ptr (some (.loc 0 0))))]
def mulMem (D : MD) (a0 a1 a2 a3 b0 b1 b2 b3 : Int) (t0 t1 t2 t3 t4 : Nat) (w0 w1 w2 w3 w4 w5 w6 w7 : Int) : Mem := [some ⟨dcells D, t0, 0, false⟩, some ⟨[u a0, u a1, u a2, u a3], t1, 0, false⟩, some ⟨[u b0, u b1, u b2, u b3], t2, 0, false⟩,
  some ⟨[u 0, u 0, u 0, u 0], t3, 0, false⟩, some ⟨[u w0, u w1, u w2, u w3, u w4, u w5, u w6, u w7], t4, 0, false⟩]

def MulI (D : MD) (a0 a1 a2 a3 b0 b1 b2 b3 : Int) (k : Nat) (e : Env) (m : Mem) : Prop :=
  ∃ (i : Nat) (w0 w1 w2 w3 w4 w5 w6 w7 : Int) (t0 t1 t2 t3 t4 : Nat), i ≤ 4 ∧ k = 4 - i ∧ In8 w0 w1 w2 w3 w4 w5 w6 w7 ∧ val8 w0 w1 w2 w3 w4 w5 w6 w7 = ap a0 a1 a2 a3 i * val b0 b1 b2 b3 ∧ (i ≤ 0 → w4 = 0) ∧ (i ≤ 1 → w5 = 0) ∧ (i ≤ 2 → w6 = 0) ∧ (i ≤ 3 → w7 = 0) ∧
    e = mulEnv i ∧ m = mulMem D a0 a1 a2 a3 b0 b1 b2 b3 t0 t1 t2 t3 t4 w0 w1 w2 w3 w4 w5 w6 w7

theorem ap_succ (a0 a1 a2 a3 b : Int) : ap a0 a1 a2 a3 0 * b = 0 ∧ ap a0 a1 a2 a3 1 * b = ap a0 a1 a2 a3 0 * b + a0 * b ∧ ap a0 a1 a2 a3 2 * b = ap a0 a1 a2 a3 1 * b + 18446744073709551616 * (a1 * b) ∧
    ap a0 a1 a2 a3 3 * b = ap a0 a1 a2 a3 2 * b + 340282366920938463463374607431768211456 * (a2 * b) ∧ ap a0 a1 a2 a3 4 * b = ap a0 a1 a2 a3 3 * b + 6277101735386680763835789423207666416102355444464034512896 * (a3 * b) := by
  unfold ap val
  simp only [Int.add_mul, Int.mul_assoc, Int.zero_mul]
  refine ⟨trivial, by omega, trivial, trivial, trivial⟩

set_option maxHeartbeats 4000000 in
theorem mulRow0 {D : MD} {a0 a1 a2 a3 b0 b1 b2 b3 w0 w1 w2 w3 w4 w5 w6 w7 : Int} {t0 t1 t2 t3 t4 : Nat} (ha : InU a0) (hb : InU b0 ∧ InU b1 ∧ InU b2 ∧ InU b3) (hw : In8 w0 w1 w2 w3 w4 w5 w6 w7) (hE0 : val8 w0 w1 w2 w3 w4 w5 w6 w7 = ap a0 a1 a2 a3 0 * val b0 b1 b2 b3) (z4 : w4 = 0) (z5 : w5 = 0) (z6 : w6 = 0) (z7 : w7 = 0) (W0 : World) (Q : Exit → Env → Mem → Prop) :
    swp (GG W0) (lp F_ref03_Mul 0) (fun x e1 m1 => match x with
      | .normal => ∃ j e2 m2, j < 4 - 0 ∧ Wk (mulMem D a0 a1 a2 a3 b0 b1 b2 b3 t0 t1 t2 t3 t4 w0 w1 w2 w3 w4 w5 w6 w7).length e1 m1 e2 m2 ∧ MulI D a0 a1 a2 a3 b0 b1 b2 b3 j e2 m2
      | x => Q x e1 m1) (mulEnv 0) (mulMem D a0 a1 a2 a3 b0 b1 b2 b3 t0 t1 t2 t3 t4 w0 w1 w2 w3 w4 w5 w6 w7) := by
  obtain ⟨hw0, hw1, hw2, hw3, hw4, hw5, hw6, hw7⟩ := hw
  obtain ⟨hb0, hb1, hb2, hb3⟩ := hb
  have z0 : InU 0 := ⟨by omega, by omega⟩
  conv => whnf
  refine .inl ⟨5, ?_⟩
  conv => whnf
  refine ⟨⟨ha.1, ha.2, hb0.1, hb0.2⟩, ?_⟩
  intro hi lo e0 a1 a2 a3 a4 a5
  conv => whnf
  refine ⟨⟨a3, hw0.1, Int.le_refl _, Int.zero_le_ofNat 1⟩, ?_⟩
  intro x k e1 a6 a7 a8
  conv => whnf
  refine ⟨⟨a6, Int.le_refl _, Int.le_refl _, Int.zero_le_ofNat 1⟩, ?_⟩
  intro y0 l e2 g0 g1 a9
  obtain ⟨c0, d0, f0⟩ := mac e0 a1 a3 a4 a5 hw0 z0 e1 a6 a7 a8 e2 g0 g1 a9
  have G0 : InU y0 := ⟨g0, g1⟩
  obtain ⟨q0, hq0⟩ : ∃ q, q = hi + k + l := ⟨_, rfl⟩
  rw [← hq0] at d0 f0
  clear e0 a1 a2 a3 a4 a5 e1 a6 a7 a8 e2 g0 g1 a9
  conv => whnf
  refine ⟨⟨ha.1, ha.2, hb1.1, hb1.2⟩, ?_⟩
  intro hi lo e0 a1 a2 a3 a4 a5
  conv => whnf
  refine ⟨⟨a3, hw1.1, Int.le_refl _, Int.zero_le_ofNat 1⟩, ?_⟩
  intro x k e1 a6 a7 a8
  conv => whnf
  rw [c0, ← hq0]
  clear c0 hq0
  refine ⟨⟨a6, f0.1, Int.le_refl _, Int.zero_le_ofNat 1⟩, ?_⟩
  intro y1 l e2 g0 g1 a9
  obtain ⟨c1, d1, f1⟩ := mac e0 a1 a3 a4 a5 hw1 f0 e1 a6 a7 a8 e2 g0 g1 a9
  have G1 : InU y1 := ⟨g0, g1⟩
  obtain ⟨q1, hq1⟩ : ∃ q, q = hi + k + l := ⟨_, rfl⟩
  rw [← hq1] at d1 f1
  clear e0 a1 a2 a3 a4 a5 e1 a6 a7 a8 e2 g0 g1 a9
  conv => whnf
  refine ⟨⟨ha.1, ha.2, hb2.1, hb2.2⟩, ?_⟩
  intro hi lo e0 a1 a2 a3 a4 a5
  conv => whnf
  refine ⟨⟨a3, hw2.1, Int.le_refl _, Int.zero_le_ofNat 1⟩, ?_⟩
  intro x k e1 a6 a7 a8
  conv => whnf
  rw [c1, ← hq1]
  clear c1 hq1
  refine ⟨⟨a6, f1.1, Int.le_refl _, Int.zero_le_ofNat 1⟩, ?_⟩
  intro y2 l e2 g0 g1 a9
  obtain ⟨c2, d2, f2⟩ := mac e0 a1 a3 a4 a5 hw2 f1 e1 a6 a7 a8 e2 g0 g1 a9
  have G2 : InU y2 := ⟨g0, g1⟩
  obtain ⟨q2, hq2⟩ : ∃ q, q = hi + k + l := ⟨_, rfl⟩
  rw [← hq2] at d2 f2
  clear e0 a1 a2 a3 a4 a5 e1 a6 a7 a8 e2 g0 g1 a9
  conv => whnf
  refine ⟨⟨ha.1, ha.2, hb3.1, hb3.2⟩, ?_⟩
  intro hi lo e0 a1 a2 a3 a4 a5
  conv => whnf
  refine ⟨⟨a3, hw3.1, Int.le_refl _, Int.zero_le_ofNat 1⟩, ?_⟩
  intro x k e1 a6 a7 a8
  conv => whnf
  rw [c2, ← hq2]
  clear c2 hq2
  refine ⟨⟨a6, f2.1, Int.le_refl _, Int.zero_le_ofNat 1⟩, ?_⟩
  intro y3 l e2 g0 g1 a9
  obtain ⟨c3, d3, f3⟩ := mac e0 a1 a3 a4 a5 hw3 f2 e1 a6 a7 a8 e2 g0 g1 a9
  have G3 : InU y3 := ⟨g0, g1⟩
  obtain ⟨q3, hq3⟩ : ∃ q, q = hi + k + l := ⟨_, rfl⟩
  rw [← hq3] at d3 f3
  clear e0 a1 a2 a3 a4 a5 e1 a6 a7 a8 e2 g0 g1 a9
  have R := mulrow d0 d1 d2 d3
  clear d0 d1 d2 d3
  have hS := ap_succ a0 a1 a2 a3 (val b0 b1 b2 b3)
  have hE : val8 y0 y1 y2 y3 q3 w5 w6 w7 = ap a0 a1 a2 a3 1 * val b0 b1 b2 b3 := by
    rw [hS.2.1, ← hE0]
    clear hS c3 hq3 hE0
    generalize a0 * val b0 b1 b2 b3 = P at *
    unfold val8 val at *
    omega
  conv => whnf
  rw [wr_eq (c3.trans hq3.symm)]
  refine ⟨3, _, _, by decide, wk_of (by (repeat' apply And.intro) <;> first | trivial | rfl) (by (repeat' apply And.intro) <;> first | trivial | rfl) (Nat.le_refl _) (Nat.le_refl _), ⟨1, y0, y1, y2, y3, q3, w5, w6, w7, t0, t1, t2, t3, t4, by decide, by decide, ⟨G0, G1, G2, G3, f3, hw5, hw6, hw7⟩, hE, fun h => absurd h (by decide), fun _ => z5, fun _ => z6, fun _ => z7, rfl, rfl⟩⟩

set_option maxHeartbeats 4000000 in
theorem mulRow1 {D : MD} {a0 a1 a2 a3 b0 b1 b2 b3 w0 w1 w2 w3 w4 w5 w6 w7 : Int} {t0 t1 t2 t3 t4 : Nat} (ha : InU a1) (hb : InU b0 ∧ InU b1 ∧ InU b2 ∧ InU b3) (hw : In8 w0 w1 w2 w3 w4 w5 w6 w7) (hE0 : val8 w0 w1 w2 w3 w4 w5 w6 w7 = ap a0 a1 a2 a3 1 * val b0 b1 b2 b3) (z5 : w5 = 0) (z6 : w6 = 0) (z7 : w7 = 0) (W0 : World) (Q : Exit → Env → Mem → Prop) :
    swp (GG W0) (lp F_ref03_Mul 0) (fun x e1 m1 => match x with
      | .normal => ∃ j e2 m2, j < 4 - 1 ∧ Wk (mulMem D a0 a1 a2 a3 b0 b1 b2 b3 t0 t1 t2 t3 t4 w0 w1 w2 w3 w4 w5 w6 w7).length e1 m1 e2 m2 ∧ MulI D a0 a1 a2 a3 b0 b1 b2 b3 j e2 m2
      | x => Q x e1 m1) (mulEnv 1) (mulMem D a0 a1 a2 a3 b0 b1 b2 b3 t0 t1 t2 t3 t4 w0 w1 w2 w3 w4 w5 w6 w7) := by
  obtain ⟨hw0, hw1, hw2, hw3, hw4, hw5, hw6, hw7⟩ := hw
  obtain ⟨hb0, hb1, hb2, hb3⟩ := hb
  have z0 : InU 0 := ⟨by omega, by omega⟩
  conv => whnf
  refine .inl ⟨5, ?_⟩
  conv => whnf
  refine ⟨⟨ha.1, ha.2, hb0.1, hb0.2⟩, ?_⟩
  intro hi lo e0 a1 a2 a3 a4 a5
  conv => whnf
  refine ⟨⟨a3, hw1.1, Int.le_refl _, Int.zero_le_ofNat 1⟩, ?_⟩
  intro x k e1 a6 a7 a8
  conv => whnf
  refine ⟨⟨a6, Int.le_refl _, Int.le_refl _, Int.zero_le_ofNat 1⟩, ?_⟩
  intro y0 l e2 g0 g1 a9
  obtain ⟨c0, d0, f0⟩ := mac e0 a1 a3 a4 a5 hw1 z0 e1 a6 a7 a8 e2 g0 g1 a9
  have G0 : InU y0 := ⟨g0, g1⟩
  obtain ⟨q0, hq0⟩ : ∃ q, q = hi + k + l := ⟨_, rfl⟩
  rw [← hq0] at d0 f0
  clear e0 a1 a2 a3 a4 a5 e1 a6 a7 a8 e2 g0 g1 a9
  conv => whnf
  refine ⟨⟨ha.1, ha.2, hb1.1, hb1.2⟩, ?_⟩
  intro hi lo e0 a1 a2 a3 a4 a5
  conv => whnf
  refine ⟨⟨a3, hw2.1, Int.le_refl _, Int.zero_le_ofNat 1⟩, ?_⟩
  intro x k e1 a6 a7 a8
  conv => whnf
  rw [c0, ← hq0]
  clear c0 hq0
  refine ⟨⟨a6, f0.1, Int.le_refl _, Int.zero_le_ofNat 1⟩, ?_⟩
  intro y1 l e2 g0 g1 a9
  obtain ⟨c1, d1, f1⟩ := mac e0 a1 a3 a4 a5 hw2 f0 e1 a6 a7 a8 e2 g0 g1 a9
  have G1 : InU y1 := ⟨g0, g1⟩
  obtain ⟨q1, hq1⟩ : ∃ q, q = hi + k + l := ⟨_, rfl⟩
  rw [← hq1] at d1 f1
  clear e0 a1 a2 a3 a4 a5 e1 a6 a7 a8 e2 g0 g1 a9
  conv => whnf
  refine ⟨⟨ha.1, ha.2, hb2.1, hb2.2⟩, ?_⟩
  intro hi lo e0 a1 a2 a3 a4 a5
  conv => whnf
  refine ⟨⟨a3, hw3.1, Int.le_refl _, Int.zero_le_ofNat 1⟩, ?_⟩
  intro x k e1 a6 a7 a8
  conv => whnf
  rw [c1, ← hq1]
  clear c1 hq1
  refine ⟨⟨a6, f1.1, Int.le_refl _, Int.zero_le_ofNat 1⟩, ?_⟩
  intro y2 l e2 g0 g1 a9
  obtain ⟨c2, d2, f2⟩ := mac e0 a1 a3 a4 a5 hw3 f1 e1 a6 a7 a8 e2 g0 g1 a9
  have G2 : InU y2 := ⟨g0, g1⟩
  obtain ⟨q2, hq2⟩ : ∃ q, q = hi + k + l := ⟨_, rfl⟩
  rw [← hq2] at d2 f2
  clear e0 a1 a2 a3 a4 a5 e1 a6 a7 a8 e2 g0 g1 a9
  conv => whnf
  refine ⟨⟨ha.1, ha.2, hb3.1, hb3.2⟩, ?_⟩
  intro hi lo e0 a1 a2 a3 a4 a5
  conv => whnf
  refine ⟨⟨a3, hw4.1, Int.le_refl _, Int.zero_le_ofNat 1⟩, ?_⟩
  intro x k e1 a6 a7 a8
  conv => whnf
  rw [c2, ← hq2]
  clear c2 hq2
  refine ⟨⟨a6, f2.1, Int.le_refl _, Int.zero_le_ofNat 1⟩, ?_⟩
  intro y3 l e2 g0 g1 a9
  obtain ⟨c3, d3, f3⟩ := mac e0 a1 a3 a4 a5 hw4 f2 e1 a6 a7 a8 e2 g0 g1 a9
  have G3 : InU y3 := ⟨g0, g1⟩
  obtain ⟨q3, hq3⟩ : ∃ q, q = hi + k + l := ⟨_, rfl⟩
  rw [← hq3] at d3 f3
  clear e0 a1 a2 a3 a4 a5 e1 a6 a7 a8 e2 g0 g1 a9
  have R := mulrow d0 d1 d2 d3
  clear d0 d1 d2 d3
  have hS := ap_succ a0 a1 a2 a3 (val b0 b1 b2 b3)
  have hE : val8 w0 y0 y1 y2 y3 q3 w6 w7 = ap a0 a1 a2 a3 2 * val b0 b1 b2 b3 := by
    rw [hS.2.2.1, ← hE0]
    clear hS c3 hq3 hE0
    generalize a1 * val b0 b1 b2 b3 = P at *
    unfold val8 val at *
    omega
  conv => whnf
  rw [wr_eq (c3.trans hq3.symm)]
  refine ⟨2, _, _, by decide, wk_of (by (repeat' apply And.intro) <;> first | trivial | rfl) (by (repeat' apply And.intro) <;> first | trivial | rfl) (Nat.le_refl _) (Nat.le_refl _), ⟨2, w0, y0, y1, y2, y3, q3, w6, w7, t0, t1, t2, t3, t4, by decide, by decide, ⟨hw0, G0, G1, G2, G3, f3, hw6, hw7⟩, hE, fun h => absurd h (by decide), fun h => absurd h (by decide), fun _ => z6, fun _ => z7, rfl, rfl⟩⟩

set_option maxHeartbeats 4000000 in
theorem mulRow2 {D : MD} {a0 a1 a2 a3 b0 b1 b2 b3 w0 w1 w2 w3 w4 w5 w6 w7 : Int} {t0 t1 t2 t3 t4 : Nat} (ha : InU a2) (hb : InU b0 ∧ InU b1 ∧ InU b2 ∧ InU b3) (hw : In8 w0 w1 w2 w3 w4 w5 w6 w7) (hE0 : val8 w0 w1 w2 w3 w4 w5 w6 w7 = ap a0 a1 a2 a3 2 * val b0 b1 b2 b3) (z6 : w6 = 0) (z7 : w7 = 0) (W0 : World) (Q : Exit → Env → Mem → Prop) :
    swp (GG W0) (lp F_ref03_Mul 0) (fun x e1 m1 => match x with
      | .normal => ∃ j e2 m2, j < 4 - 2 ∧ Wk (mulMem D a0 a1 a2 a3 b0 b1 b2 b3 t0 t1 t2 t3 t4 w0 w1 w2 w3 w4 w5 w6 w7).length e1 m1 e2 m2 ∧ MulI D a0 a1 a2 a3 b0 b1 b2 b3 j e2 m2
      | x => Q x e1 m1) (mulEnv 2) (mulMem D a0 a1 a2 a3 b0 b1 b2 b3 t0 t1 t2 t3 t4 w0 w1 w2 w3 w4 w5 w6 w7) := by
  obtain ⟨hw0, hw1, hw2, hw3, hw4, hw5, hw6, hw7⟩ := hw
  obtain ⟨hb0, hb1, hb2, hb3⟩ := hb
  have z0 : InU 0 := ⟨by omega, by omega⟩
  conv => whnf
  refine .inl ⟨5, ?_⟩
  conv => whnf
  refine ⟨⟨ha.1, ha.2, hb0.1, hb0.2⟩, ?_⟩
  intro hi lo e0 a1 a2 a3 a4 a5
  conv => whnf
  refine ⟨⟨a3, hw2.1, Int.le_refl _, Int.zero_le_ofNat 1⟩, ?_⟩
  intro x k e1 a6 a7 a8
  conv => whnf
  refine ⟨⟨a6, Int.le_refl _, Int.le_refl _, Int.zero_le_ofNat 1⟩, ?_⟩
  intro y0 l e2 g0 g1 a9
  obtain ⟨c0, d0, f0⟩ := mac e0 a1 a3 a4 a5 hw2 z0 e1 a6 a7 a8 e2 g0 g1 a9
  have G0 : InU y0 := ⟨g0, g1⟩
  obtain ⟨q0, hq0⟩ : ∃ q, q = hi + k + l := ⟨_, rfl⟩
  rw [← hq0] at d0 f0
  clear e0 a1 a2 a3 a4 a5 e1 a6 a7 a8 e2 g0 g1 a9
  conv => whnf
  refine ⟨⟨ha.1, ha.2, hb1.1, hb1.2⟩, ?_⟩
  intro hi lo e0 a1 a2 a3 a4 a5
  conv => whnf
  refine ⟨⟨a3, hw3.1, Int.le_refl _, Int.zero_le_ofNat 1⟩, ?_⟩
  intro x k e1 a6 a7 a8
  conv => whnf
  rw [c0, ← hq0]
  clear c0 hq0
  refine ⟨⟨a6, f0.1, Int.le_refl _, Int.zero_le_ofNat 1⟩, ?_⟩
  intro y1 l e2 g0 g1 a9
  obtain ⟨c1, d1, f1⟩ := mac e0 a1 a3 a4 a5 hw3 f0 e1 a6 a7 a8 e2 g0 g1 a9
  have G1 : InU y1 := ⟨g0, g1⟩
  obtain ⟨q1, hq1⟩ : ∃ q, q = hi + k + l := ⟨_, rfl⟩
  rw [← hq1] at d1 f1
  clear e0 a1 a2 a3 a4 a5 e1 a6 a7 a8 e2 g0 g1 a9
  conv => whnf
  refine ⟨⟨ha.1, ha.2, hb2.1, hb2.2⟩, ?_⟩
  intro hi lo e0 a1 a2 a3 a4 a5
  conv => whnf
  refine ⟨⟨a3, hw4.1, Int.le_refl _, Int.zero_le_ofNat 1⟩, ?_⟩
  intro x k e1 a6 a7 a8
  conv => whnf
  rw [c1, ← hq1]
  clear c1 hq1
  refine ⟨⟨a6, f1.1, Int.le_refl _, Int.zero_le_ofNat 1⟩, ?_⟩
  intro y2 l e2 g0 g1 a9
  obtain ⟨c2, d2, f2⟩ := mac e0 a1 a3 a4 a5 hw4 f1 e1 a6 a7 a8 e2 g0 g1 a9
  have G2 : InU y2 := ⟨g0, g1⟩
  obtain ⟨q2, hq2⟩ : ∃ q, q = hi + k + l := ⟨_, rfl⟩
  rw [← hq2] at d2 f2
  clear e0 a1 a2 a3 a4 a5 e1 a6 a7 a8 e2 g0 g1 a9
  conv => whnf
  refine ⟨⟨ha.1, ha.2, hb3.1, hb3.2⟩, ?_⟩
  intro hi lo e0 a1 a2 a3 a4 a5
  conv => whnf
  refine ⟨⟨a3, hw5.1, Int.le_refl _, Int.zero_le_ofNat 1⟩, ?_⟩
  intro x k e1 a6 a7 a8
  conv => whnf
  rw [c2, ← hq2]
  clear c2 hq2
  refine ⟨⟨a6, f2.1, Int.le_refl _, Int.zero_le_ofNat 1⟩, ?_⟩
  intro y3 l e2 g0 g1 a9
  obtain ⟨c3, d3, f3⟩ := mac e0 a1 a3 a4 a5 hw5 f2 e1 a6 a7 a8 e2 g0 g1 a9
  have G3 : InU y3 := ⟨g0, g1⟩
  obtain ⟨q3, hq3⟩ : ∃ q, q = hi + k + l := ⟨_, rfl⟩
  rw [← hq3] at d3 f3
  clear e0 a1 a2 a3 a4 a5 e1 a6 a7 a8 e2 g0 g1 a9
  have R := mulrow d0 d1 d2 d3
  clear d0 d1 d2 d3
  have hS := ap_succ a0 a1 a2 a3 (val b0 b1 b2 b3)
  have hE : val8 w0 w1 y0 y1 y2 y3 q3 w7 = ap a0 a1 a2 a3 3 * val b0 b1 b2 b3 := by
    rw [hS.2.2.2.1, ← hE0]
    clear hS c3 hq3 hE0
    generalize a2 * val b0 b1 b2 b3 = P at *
    unfold val8 val at *
    omega
  conv => whnf
  rw [wr_eq (c3.trans hq3.symm)]
  refine ⟨1, _, _, by decide, wk_of (by (repeat' apply And.intro) <;> first | trivial | rfl) (by (repeat' apply And.intro) <;> first | trivial | rfl) (Nat.le_refl _) (Nat.le_refl _), ⟨3, w0, w1, y0, y1, y2, y3, q3, w7, t0, t1, t2, t3, t4, by decide, by decide, ⟨hw0, hw1, G0, G1, G2, G3, f3, hw7⟩, hE, fun h => absurd h (by decide), fun h => absurd h (by decide), fun h => absurd h (by decide), fun _ => z7, rfl, rfl⟩⟩

set_option maxHeartbeats 4000000 in
theorem mulRow3 {D : MD} {a0 a1 a2 a3 b0 b1 b2 b3 w0 w1 w2 w3 w4 w5 w6 w7 : Int} {t0 t1 t2 t3 t4 : Nat} (ha : InU a3) (hb : InU b0 ∧ InU b1 ∧ InU b2 ∧ InU b3) (hw : In8 w0 w1 w2 w3 w4 w5 w6 w7) (hE0 : val8 w0 w1 w2 w3 w4 w5 w6 w7 = ap a0 a1 a2 a3 3 * val b0 b1 b2 b3) (z7 : w7 = 0) (W0 : World) (Q : Exit → Env → Mem → Prop) :
    swp (GG W0) (lp F_ref03_Mul 0) (fun x e1 m1 => match x with
      | .normal => ∃ j e2 m2, j < 4 - 3 ∧ Wk (mulMem D a0 a1 a2 a3 b0 b1 b2 b3 t0 t1 t2 t3 t4 w0 w1 w2 w3 w4 w5 w6 w7).length e1 m1 e2 m2 ∧ MulI D a0 a1 a2 a3 b0 b1 b2 b3 j e2 m2
      | x => Q x e1 m1) (mulEnv 3) (mulMem D a0 a1 a2 a3 b0 b1 b2 b3 t0 t1 t2 t3 t4 w0 w1 w2 w3 w4 w5 w6 w7) := by
  obtain ⟨hw0, hw1, hw2, hw3, hw4, hw5, hw6, hw7⟩ := hw
  obtain ⟨hb0, hb1, hb2, hb3⟩ := hb
  have z0 : InU 0 := ⟨by omega, by omega⟩
  conv => whnf
  refine .inl ⟨5, ?_⟩
  conv => whnf
  refine ⟨⟨ha.1, ha.2, hb0.1, hb0.2⟩, ?_⟩
  intro hi lo e0 a1 a2 a3 a4 a5
  conv => whnf
  refine ⟨⟨a3, hw3.1, Int.le_refl _, Int.zero_le_ofNat 1⟩, ?_⟩
  intro x k e1 a6 a7 a8
  conv => whnf
  refine ⟨⟨a6, Int.le_refl _, Int.le_refl _, Int.zero_le_ofNat 1⟩, ?_⟩
  intro y0 l e2 g0 g1 a9
  obtain ⟨c0, d0, f0⟩ := mac e0 a1 a3 a4 a5 hw3 z0 e1 a6 a7 a8 e2 g0 g1 a9
  have G0 : InU y0 := ⟨g0, g1⟩
  obtain ⟨q0, hq0⟩ : ∃ q, q = hi + k + l := ⟨_, rfl⟩
  rw [← hq0] at d0 f0
  clear e0 a1 a2 a3 a4 a5 e1 a6 a7 a8 e2 g0 g1 a9
  conv => whnf
  refine ⟨⟨ha.1, ha.2, hb1.1, hb1.2⟩, ?_⟩
  intro hi lo e0 a1 a2 a3 a4 a5
  conv => whnf
  refine ⟨⟨a3, hw4.1, Int.le_refl _, Int.zero_le_ofNat 1⟩, ?_⟩
  intro x k e1 a6 a7 a8
  conv => whnf
  rw [c0, ← hq0]
  clear c0 hq0
  refine ⟨⟨a6, f0.1, Int.le_refl _, Int.zero_le_ofNat 1⟩, ?_⟩
  intro y1 l e2 g0 g1 a9
  obtain ⟨c1, d1, f1⟩ := mac e0 a1 a3 a4 a5 hw4 f0 e1 a6 a7 a8 e2 g0 g1 a9
  have G1 : InU y1 := ⟨g0, g1⟩
  obtain ⟨q1, hq1⟩ : ∃ q, q = hi + k + l := ⟨_, rfl⟩
  rw [← hq1] at d1 f1
  clear e0 a1 a2 a3 a4 a5 e1 a6 a7 a8 e2 g0 g1 a9
  conv => whnf
  refine ⟨⟨ha.1, ha.2, hb2.1, hb2.2⟩, ?_⟩
  intro hi lo e0 a1 a2 a3 a4 a5
  conv => whnf
  refine ⟨⟨a3, hw5.1, Int.le_refl _, Int.zero_le_ofNat 1⟩, ?_⟩
  intro x k e1 a6 a7 a8
  conv => whnf
  rw [c1, ← hq1]
  clear c1 hq1
  refine ⟨⟨a6, f1.1, Int.le_refl _, Int.zero_le_ofNat 1⟩, ?_⟩
  intro y2 l e2 g0 g1 a9
  obtain ⟨c2, d2, f2⟩ := mac e0 a1 a3 a4 a5 hw5 f1 e1 a6 a7 a8 e2 g0 g1 a9
  have G2 : InU y2 := ⟨g0, g1⟩
  obtain ⟨q2, hq2⟩ : ∃ q, q = hi + k + l := ⟨_, rfl⟩
  rw [← hq2] at d2 f2
  clear e0 a1 a2 a3 a4 a5 e1 a6 a7 a8 e2 g0 g1 a9
  conv => whnf
  refine ⟨⟨ha.1, ha.2, hb3.1, hb3.2⟩, ?_⟩
  intro hi lo e0 a1 a2 a3 a4 a5
  conv => whnf
  refine ⟨⟨a3, hw6.1, Int.le_refl _, Int.zero_le_ofNat 1⟩, ?_⟩
  intro x k e1 a6 a7 a8
  conv => whnf
  rw [c2, ← hq2]
  clear c2 hq2
  refine ⟨⟨a6, f2.1, Int.le_refl _, Int.zero_le_ofNat 1⟩, ?_⟩
  intro y3 l e2 g0 g1 a9
  obtain ⟨c3, d3, f3⟩ := mac e0 a1 a3 a4 a5 hw6 f2 e1 a6 a7 a8 e2 g0 g1 a9
  have G3 : InU y3 := ⟨g0, g1⟩
  obtain ⟨q3, hq3⟩ : ∃ q, q = hi + k + l := ⟨_, rfl⟩
  rw [← hq3] at d3 f3
  clear e0 a1 a2 a3 a4 a5 e1 a6 a7 a8 e2 g0 g1 a9
  have R := mulrow d0 d1 d2 d3
  clear d0 d1 d2 d3
  have hS := ap_succ a0 a1 a2 a3 (val b0 b1 b2 b3)
  have hE : val8 w0 w1 w2 y0 y1 y2 y3 q3 = ap a0 a1 a2 a3 4 * val b0 b1 b2 b3 := by
    rw [hS.2.2.2.2, ← hE0]
    clear hS c3 hq3 hE0
    generalize a3 * val b0 b1 b2 b3 = P at *
    unfold val8 val at *
    omega
  conv => whnf
  rw [wr_eq (c3.trans hq3.symm)]
  refine ⟨0, _, _, by decide, wk_of (by (repeat' apply And.intro) <;> first | trivial | rfl) (by (repeat' apply And.intro) <;> first | trivial | rfl) (Nat.le_refl _) (Nat.le_refl _), ⟨4, w0, w1, w2, y0, y1, y2, y3, q3, t0, t1, t2, t3, t4, by decide, by decide, ⟨hw0, hw1, hw2, G0, G1, G2, G3, f3⟩, hE, fun h => absurd h (by decide), fun h => absurd h (by decide), fun h => absurd h (by decide), fun h => absurd h (by decide), rfl, rfl⟩⟩

set_option maxHeartbeats 1000000 in
theorem refMul_fn {D : MD} (hD : D.Ok) {x y : Int} (hx : InW x) (hy : InW y) : Fn PG f_ref03_Mul [D.tv, W x, W y] (W (x * y % D.M)) := by
  obtain ⟨a0, a1, a2, a3, ha0, ha1, ha2, ha3, rfl⟩ := split4 hx
  obtain ⟨b0, b1, b2, b3, hb0, hb1, hb2, hb3, rfl⟩ := split4 hy
  simp only [W, words_val ha0 ha1 ha2 ha3, words_val hb0 hb1 hb2 hb3]
  have z0 : InU 0 := ⟨by omega, by omega⟩
  clear hx hy
  refine fn_go h_ref03_Mul rfl (by kernel_rfl) (fun _ => by kernel_rfl) rfl rfl fun W0 => ?_
  conv => whnf
  refine .inr (loop_inv (gOk W0) (MulI D a0 a1 a2 a3 b0 b1 b2 b3) ?_ ?_)
  · intro k e' m' hI
    obtain ⟨i, w0, w1, w2, w3, w4, w5, w6, w7, t0, t1, t2, t3, t4, hi4, rfl, hw, hE, z4, z5, z6, z7, rfl, rfl⟩ := hI
    obtain rfl | rfl | rfl | rfl | rfl : i = 0 ∨ i = 1 ∨ i = 2 ∨ i = 3 ∨ i = 4 := by omega
    · exact mulRow0 ha0 ⟨hb0, hb1, hb2, hb3⟩ hw hE (z4 (by decide)) (z5 (by decide)) (z6 (by decide)) (z7 (by decide)) W0 _
    · exact mulRow1 ha1 ⟨hb0, hb1, hb2, hb3⟩ hw hE (z5 (by decide)) (z6 (by decide)) (z7 (by decide)) W0 _
    · exact mulRow2 ha2 ⟨hb0, hb1, hb2, hb3⟩ hw hE (z6 (by decide)) (z7 (by decide)) W0 _
    · exact mulRow3 ha3 ⟨hb0, hb1, hb2, hb3⟩ hw hE (z7 (by decide)) W0 _
    · conv => whnf
      have hf := refFold_fn hD hw
      rw [hE] at hf
      refine ⟨_, hf.2 _ _, rfl, ?_⟩
      conv => whnf
      rfl
  · refine ⟨4, _, _, wk_of (by (repeat' apply And.intro) <;> first | trivial | rfl) (by (repeat' apply And.intro) <;> first | trivial | rfl) (Nat.le_refl _) (Nat.le_refl _), ⟨0, 0, 0, 0, 0, 0, 0, 0, 0, _, _, _, _, _, by decide, by decide, ⟨z0, z0, z0, z0, z0, z0, z0, z0⟩, ?_, fun _ => rfl, fun _ => rfl, fun _ => rfl, fun _ => rfl, rfl, rfl⟩⟩
    rw [(ap_succ a0 a1 a2 a3 _).1]
    rfl

end Go.Ev

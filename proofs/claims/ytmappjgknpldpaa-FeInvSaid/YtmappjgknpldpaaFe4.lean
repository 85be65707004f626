import Derived.Test.YtmappjgknpldpaaFe3
namespace Go.Ev

theorem times_x (s0 s1 s2 s3 a0 a1 a2 a3 m : Int) (h0 : InU s0) (h1 : InU s1) (h2 : InU s2) (h3 : InU s3) (g0 : InU a0) (g1 : InU a1) (g2 : InU a2) (g3 : InU a3) (hm : InU m) :
    ∃ r0 r1 r2 r3 c : Int, InU r0 ∧ InU r1 ∧ InU r2 ∧ InU r3 ∧ InU c ∧
      val r0 r1 r2 r3 + 115792089237316195423570985008687907853269984665640564039457584007913129639936 * c = val s0 s1 s2 s3 + val a0 a1 a2 a3 * m ∧
    Fn PG f_fe_times [w4 s0 s1 s2 s3, w4 a0 a1 a2 a3, .one (u m)] (.tup [.agg [u r0, u r1, u r2, u r3], .one (u c)]) := by
  obtain ⟨r, c, hr, hc, he, hfn⟩ := times_w s0 s1 s2 s3 a0 a1 a2 a3 m h0 h1 h2 h3 g0 g1 g2 g3 hm
  obtain ⟨r0, r1, r2, r3, k0, k1, k2, k3, rfl⟩ := split4 hr
  rw [words_val k0 k1 k2 k3] at hfn
  exact ⟨r0, r1, r2, r3, c, k0, k1, k2, k3, hc, he, hfn⟩

set_option maxHeartbeats 1000000 in
theorem feMul_fn {x y : Int} (hx : InW x) (hy : InW y) : Fn PG f_fe_Mul [W x, W y] (W (x * y % pp)) := by
  obtain ⟨a0, a1, a2, a3, h0, h1, h2, h3, rfl⟩ := split4 hx
  obtain ⟨b0, b1, b2, b3, g0, g1, g2, g3, rfl⟩ := split4 hy
  have z : InU 0 := ⟨by omega, by omega⟩
  obtain ⟨p0, p1, p2, p3, c0, i1, i2, i3, i4, i5, e0, F0⟩ := times_x 0 0 0 0 a0 a1 a2 a3 b0 z z z z h0 h1 h2 h3 g0
  obtain ⟨q0, q1, q2, q3, c1, j1, j2, j3, j4, j5, e1, F1⟩ := times_x p1 p2 p3 c0 a0 a1 a2 a3 b1 i2 i3 i4 i5 h0 h1 h2 h3 g1
  obtain ⟨r0, r1, r2, r3, c2, k1, k2, k3, k4, k5, e2, F2⟩ := times_x q1 q2 q3 c1 a0 a1 a2 a3 b2 j2 j3 j4 j5 h0 h1 h2 h3 g2
  obtain ⟨s0, s1, s2, s3, c3, l1, l2, l3, l4, l5, e3, F3⟩ := times_x r1 r2 r3 c2 a0 a1 a2 a3 b3 k2 k3 k4 k5 h0 h1 h2 h3 g3
  have lz : InU 4294968273 := ⟨by omega, by omega⟩
  obtain ⟨t0, t1, t2, t3, c4, m1, m2, m3, m4, m5, e4, F4⟩ := times_x p0 q0 r0 s0 s1 s2 s3 c3 4294968273 i1 j1 k1 l1 l2 l3 l4 l5 lz
  have hprod : val a0 a1 a2 a3 * val b0 b1 b2 b3 = val p0 q0 r0 s0 + 115792089237316195423570985008687907853269984665640564039457584007913129639936 * val s1 s2 s3 c3 := by
    have : val a0 a1 a2 a3 * val b0 b1 b2 b3 = val a0 a1 a2 a3 * b0 + 18446744073709551616 * (val a0 a1 a2 a3 * b1) + 340282366920938463463374607431768211456 * (val a0 a1 a2 a3 * b2) + 6277101735386680763835789423207666416102355444464034512896 * (val a0 a1 a2 a3 * b3) := by
      generalize val a0 a1 a2 a3 = A
      unfold val
      simp only [Int.mul_add, Int.mul_left_comm A]
    rw [this]
    generalize val a0 a1 a2 a3 * b0 = B0 at *
    generalize val a0 a1 a2 a3 * b1 = B1 at *
    generalize val a0 a1 a2 a3 * b2 = B2 at *
    generalize val a0 a1 a2 a3 * b3 = B3 at *
    unfold val at *
    omega
  rw [hprod]
  simp only [W, words_val h0 h1 h2 h3, words_val g0 g1 g2 g3]
  clear e0 e1 e2 e3 hprod
  refine fn_go h_fe_Mul rfl (by kernel_rfl) (fun _ => by kernel_rfl) rfl rfl fun W0 => ?_
  conv => whnf
  refine .inl ⟨5, ?_⟩
  conv => whnf
  refine ⟨_, F0.2 _ _, rfl, ?_⟩
  conv => whnf
  refine ⟨_, F1.2 _ _, rfl, ?_⟩
  conv => whnf
  refine ⟨_, F2.2 _ _, rfl, ?_⟩
  conv => whnf
  refine ⟨_, F3.2 _ _, rfl, ?_⟩
  conv => whnf
  refine ⟨_, F4.2 _ _, rfl, ?_⟩
  conv => whnf
  refine ⟨⟨m5.1, m5.2, by omega, by omega⟩, ?_⟩
  intro hi lo e5 n1 n2 n3 n4 _
  conv => whnf
  have hw1 : InW (val t0 t1 t2 t3) := ⟨by unfold val; omega, by unfold val; omega⟩
  have hw2 : InW (val lo hi 0 0) := ⟨by unfold val; omega, by unfold val; omega⟩
  have P1 := plus_w t0 t1 t2 t3 lo hi 0 0 m1 m2 m3 m4 ⟨n3, n4⟩ ⟨n1, n2⟩ z z
  refine ⟨_, P1.2 _ _, rfl, ?_⟩
  conv => whnf
  have hT : val t0 t1 t2 t3 + 115792089237316195423570985008687907853269984665640564039457584007913129639936 * c4 = val p0 q0 r0 s0 + 4294968273 * val s1 s2 s3 c3 := by rw [e4]; omega
  have hb1 : InW (val p0 q0 r0 s0) := ⟨by unfold val; omega, by unfold val; omega⟩
  have hb2 : InW (val s1 s2 s3 c3) := ⟨by unfold val; omega, by unfold val; omega⟩
  have hlh : val lo hi 0 0 = c4 * 4294968273 := by unfold val; omega
  rw [hlh]
  rw [hlh] at hw2
  generalize val t0 t1 t2 t3 = T at *
  generalize val p0 q0 r0 s0 = L at *
  generalize val s1 s2 s3 c3 = H at *
  have c4le : c4 ≤ 4294968273 := by omega
  clear e4 e5 P1 F0 F1 F2 F3 F4
  clear h0 h1 h2 h3 g0 g1 g2 g3 z i1 i2 i3 i4 i5 j1 j2 j3 j4 j5 k1 k2 k3 k4 k5 l1 l2 l3 l4 l5 lz m1 m2 m3 m4 n1 n2 n3 n4 hlh hx hy
  split
  · rename_i h
    have h := of_decide_eq_true h
    conv => whnf
    have hr : InW ((T + c4 * 4294968273) % 115792089237316195423570985008687907853269984665640564039457584007913129639936) := ⟨by omega, by omega⟩
    refine ⟨_, (plus_fn (y := 4294968273) hr ⟨by omega, by omega⟩).2 _ _, rfl, ?_⟩
    conv => whnf
    refine ⟨_, (norm_fn (x := ((T + c4 * 4294968273) % 115792089237316195423570985008687907853269984665640564039457584007913129639936 + 4294968273) % 115792089237316195423570985008687907853269984665640564039457584007913129639936) ⟨by omega, by omega⟩).2 _ _, rfl, ?_⟩
    conv => whnf
    have : (L + 115792089237316195423570985008687907853269984665640564039457584007913129639936 * H) % pp = ((T + c4 * 4294968273) % 115792089237316195423570985008687907853269984665640564039457584007913129639936 + 4294968273) % 115792089237316195423570985008687907853269984665640564039457584007913129639936 % pp := by
      have e1 : (T + c4 * 4294968273) % 115792089237316195423570985008687907853269984665640564039457584007913129639936 = T + c4 * 4294968273 - 115792089237316195423570985008687907853269984665640564039457584007913129639936 := by omega
      have e2 : (T + c4 * 4294968273 - 115792089237316195423570985008687907853269984665640564039457584007913129639936 + 4294968273) % 115792089237316195423570985008687907853269984665640564039457584007913129639936 = T + c4 * 4294968273 - pp := by unfold pp; omega
      rw [e1, e2]
      have e3 : L + 115792089237316195423570985008687907853269984665640564039457584007913129639936 * H = T + c4 * 4294968273 - pp + pp * (c4 + H + 1) := by unfold pp; omega
      rw [e3, Int.add_mul_emod_self_left]
    rw [this]
    rfl
  · rename_i h
    have h := of_decide_eq_false h
    conv => whnf
    refine ⟨_, (norm_fn (x := (T + c4 * 4294968273) % 115792089237316195423570985008687907853269984665640564039457584007913129639936) ⟨by omega, by omega⟩).2 _ _, rfl, ?_⟩
    conv => whnf
    have : (L + 115792089237316195423570985008687907853269984665640564039457584007913129639936 * H) % pp = (T + c4 * 4294968273) % 115792089237316195423570985008687907853269984665640564039457584007913129639936 % pp := by
      have e1 : (T + c4 * 4294968273) % 115792089237316195423570985008687907853269984665640564039457584007913129639936 = T + c4 * 4294968273 := by omega
      rw [e1]
      have e3 : L + 115792089237316195423570985008687907853269984665640564039457584007913129639936 * H = T + c4 * 4294968273 + pp * (c4 + H) := by unfold pp; omega
      rw [e3, Int.add_mul_emod_self_left]
    rw [this]
    rfl

end Go.Ev

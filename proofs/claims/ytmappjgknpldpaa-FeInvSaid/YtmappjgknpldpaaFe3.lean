import Derived.Test.YtmappjgknpldpaaFe2
namespace Go.Ev

/-- A word times a word, added to two words: two words. -/
theorem mac {a b w c hi lo x k y l : Int} (e : 18446744073709551616 * hi + lo = a * b) (h0 : 0 ≤ hi) (l0 : 0 ≤ lo) (l1 : lo < 18446744073709551616) (hb : 18446744073709551616 * hi + lo ≤ 340282366920938463426481119284349108225)
    (hw : InU w) (hc : InU c) (e1 : x + 18446744073709551616 * k = lo + w + 0) (_ : 0 ≤ x) (_ : x < 18446744073709551616) (_ : 0 ≤ k)
    (e2 : y + 18446744073709551616 * l = x + c + 0) (y0 : 0 ≤ y) (y1 : y < 18446744073709551616) (_ : 0 ≤ l) :
    ((hi + k) % 18446744073709551616 + l) % 18446744073709551616 = hi + k + l ∧ y + 18446744073709551616 * (hi + k + l) = w + c + a * b ∧ InU (hi + k + l) := by
  rw [← e]
  generalize a * b = p at *
  refine ⟨by omega, by omega, ⟨by omega, by omega⟩⟩

theorem prod_le {a m : Int} (ha : InU a) (hm : InU m) : 0 ≤ a * m ∧ a * m ≤ 340282366920938463426481119284349108225 := by
  refine ⟨Int.mul_nonneg ha.1 hm.1, ?_⟩
  have := Int.mul_le_mul (a := a) (b := m) (c := 18446744073709551615) (d := 18446744073709551615) (by omega) (by omega) hm.1 (by omega)
  omega

theorem val_mul (a b c d m : Int) : val a b c d * m = a * m + 18446744073709551616 * (b * m) + 340282366920938463463374607431768211456 * (c * m) + 6277101735386680763835789423207666416102355444464034512896 * (d * m) := by
  unfold val
  simp only [Int.add_mul, Int.mul_assoc]

set_option maxHeartbeats 1000000 in
theorem times_w (s0 s1 s2 s3 a0 a1 a2 a3 m : Int) (h0 : InU s0) (h1 : InU s1) (h2 : InU s2) (h3 : InU s3) (g0 : InU a0) (g1 : InU a1) (g2 : InU a2) (g3 : InU a3) (hm : InU m) :
    ∃ r c : Int, InW r ∧ InU c ∧ r + 115792089237316195423570985008687907853269984665640564039457584007913129639936 * c = val s0 s1 s2 s3 + val a0 a1 a2 a3 * m ∧
    Fn PG f_fe_times [w4 s0 s1 s2 s3, w4 a0 a1 a2 a3, .one (u m)] (.tup [.agg (words r), .one (u c)]) := by
  refine ⟨(val s0 s1 s2 s3 + val a0 a1 a2 a3 * m) % 115792089237316195423570985008687907853269984665640564039457584007913129639936,
    (val s0 s1 s2 s3 + val a0 a1 a2 a3 * m) / 115792089237316195423570985008687907853269984665640564039457584007913129639936, ?_⟩
  have p0 := prod_le g0 hm
  have p1 := prod_le g1 hm
  have p2 := prod_le g2 hm
  have p3 := prod_le g3 hm
  rw [val_mul]
  have hv : 0 ≤ val s0 s1 s2 s3 ∧ val s0 s1 s2 s3 < 115792089237316195423570985008687907853269984665640564039457584007913129639936 := by unfold val; omega
  refine ⟨⟨by omega, by omega⟩, ⟨by omega, by omega⟩, by omega, ?_⟩
  refine fn_go h_fe_times rfl (by kernel_rfl) (fun _ => by kernel_rfl) rfl rfl fun W0 => ?_
  conv => whnf
  refine .inl ⟨5, ?_⟩
  conv => whnf
  refine ⟨⟨g0.1, g0.2, hm.1, hm.2⟩, ?_⟩
  intro hi0 lo0 e0 b1 b2 b3 b4 _
  conv => whnf
  refine ⟨by omega, ?_⟩
  intro x0 k0 e1 b5 b6 b7
  conv => whnf
  refine ⟨by omega, ?_⟩
  intro y0 j0 e2 b8 b9 b10
  conv => whnf
  refine ⟨⟨g1.1, g1.2, hm.1, hm.2⟩, ?_⟩
  have c0 : ((hi0 + k0) % 18446744073709551616 + j0) % 18446744073709551616 = hi0 + k0 + j0 := by omega
  have d0 : y0 + 18446744073709551616 * (hi0 + k0 + j0) = s0 + a0 * m := by omega
  have f0 : InU (hi0 + k0 + j0) := ⟨by omega, by omega⟩
  intro hi1 lo1 e3 b11 b12 b13 b14 _
  conv => whnf
  rw [c0]
  generalize hi0 + k0 + j0 = q0 at *
  clear e0 b1 b2 b3 b4 e1 b5 b6 b7 e2 b10 c0
  refine ⟨⟨by omega, f0.1, by omega, by omega⟩, ?_⟩
  intro x1 k1 e1 b5 b6 b7
  conv => whnf
  refine ⟨by omega, ?_⟩
  intro y1 j1 e2 b8' b9' b10
  conv => whnf
  refine ⟨⟨g2.1, g2.2, hm.1, hm.2⟩, ?_⟩
  have c1 : ((hi1 + k1) % 18446744073709551616 + j1) % 18446744073709551616 = hi1 + k1 + j1 := by omega
  have d1 : y1 + 18446744073709551616 * (hi1 + k1 + j1) = s1 + a1 * m + q0 := by omega
  have f1 : InU (hi1 + k1 + j1) := ⟨by omega, by omega⟩
  intro hi2 lo2 e4 b15 b16 b17 b18 _
  conv => whnf
  rw [c1]
  generalize hi1 + k1 + j1 = q1 at *
  clear e3 b11 b12 b13 b14 e1 b5 b6 b7 e2 b10 c1
  refine ⟨⟨by omega, f1.1, by omega, by omega⟩, ?_⟩
  intro x2 k2 e1 b5 b6 b7
  conv => whnf
  refine ⟨by omega, ?_⟩
  intro y2 j2 e2 b8'' b9'' b10
  conv => whnf
  refine ⟨⟨g3.1, g3.2, hm.1, hm.2⟩, ?_⟩
  have c2 : ((hi2 + k2) % 18446744073709551616 + j2) % 18446744073709551616 = hi2 + k2 + j2 := by omega
  have d2 : y2 + 18446744073709551616 * (hi2 + k2 + j2) = s2 + a2 * m + q1 := by omega
  have f2 : InU (hi2 + k2 + j2) := ⟨by omega, by omega⟩
  intro hi3 lo3 e5 b19 b20 b21 b22 _
  conv => whnf
  rw [c2]
  generalize hi2 + k2 + j2 = q2 at *
  clear e4 b15 b16 b17 b18 e1 b5 b6 b7 e2 b10 c2
  refine ⟨⟨by omega, f2.1, by omega, by omega⟩, ?_⟩
  intro x3 k3 e1 b5 b6 b7
  conv => whnf
  refine ⟨by omega, ?_⟩
  intro y3 j3 e2 b8''' b9''' b10
  conv => whnf
  have c3 : ((hi3 + k3) % 18446744073709551616 + j3) % 18446744073709551616 = hi3 + k3 + j3 := by omega
  have d3 : y3 + 18446744073709551616 * (hi3 + k3 + j3) = s3 + a3 * m + q2 := by omega
  have f3 : InU (hi3 + k3 + j3) := ⟨by omega, by omega⟩
  clear e1 e2 e5
  have hr : (val s0 s1 s2 s3 + (a0 * m + 18446744073709551616 * (a1 * m) + 340282366920938463463374607431768211456 * (a2 * m) + 6277101735386680763835789423207666416102355444464034512896 * (a3 * m))) =
      val y0 y1 y2 y3 + 115792089237316195423570985008687907853269984665640564039457584007913129639936 * (hi3 + k3 + j3) := by
    unfold val; omega
  have hy : InW (val y0 y1 y2 y3) := ⟨by unfold val; omega, by unfold val; omega⟩
  rw [hr]
  have r1 : (val y0 y1 y2 y3 + 115792089237316195423570985008687907853269984665640564039457584007913129639936 * (hi3 + k3 + j3)) % 115792089237316195423570985008687907853269984665640564039457584007913129639936 = val y0 y1 y2 y3 := by omega
  have r2 : (val y0 y1 y2 y3 + 115792089237316195423570985008687907853269984665640564039457584007913129639936 * (hi3 + k3 + j3)) / 115792089237316195423570985008687907853269984665640564039457584007913129639936 = hi3 + k3 + j3 := by omega
  rw [r1, r2, words_val ⟨b8, b9⟩ ⟨b8', b9'⟩ ⟨b8'', b9''⟩ ⟨b8''', b9'''⟩]
  show TV.tup [.agg [u y0, u y1, u y2, u y3], .one (wr .u64 ((hi3 + k3) % 18446744073709551616 + j3))] = _
  simp only [wr, c3]
  rfl

end Go.Ev

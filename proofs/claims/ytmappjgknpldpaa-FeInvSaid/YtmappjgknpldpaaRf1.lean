import Derived.Test.YtmappjgknpldpaaFe6
namespace Go.Ev

/-- A modulus as the reference has it. -/
structure MD where
  m0 : Int
  m1 : Int
  m2 : Int
  m3 : Int
  l0 : Int
  l1 : Int
  l2 : Int

def MD.M (D : MD) : Int := val D.m0 D.m1 D.m2 D.m3
def MD.L (D : MD) : Int := D.l0 + 18446744073709551616 * D.l1 + 340282366920938463463374607431768211456 * D.l2
def MD.tv (D : MD) : TV := .agg [u D.m0, u D.m1, u D.m2, u D.m3, u D.l0, u D.l1, u D.l2]

structure MD.Ok (D : MD) : Prop where
  m0 : InU D.m0
  m1 : InU D.m1
  m2 : InU D.m2
  m3 : InU D.m3
  l0 : InU D.l0
  l1 : InU D.l1
  l2 : D.l2 = 0 ∨ D.l2 = 1
  sum : D.M + D.L = 115792089237316195423570985008687907853269984665640564039457584007913129639936

def mdP : MD := ⟨18446744069414583343, 18446744073709551615, 18446744073709551615, 18446744073709551615, 4294968273, 0, 0⟩
def mdN : MD := ⟨13822214165235122497, 13451932020343611451, 18446744073709551614, 18446744073709551615, 4624529908474429119, 4994812053365940164, 1⟩

theorem mdP_ok : mdP.Ok := ⟨by unfold mdP; decide, by unfold mdP; decide, by unfold mdP; decide, by unfold mdP; decide, by unfold mdP; decide, by unfold mdP; decide, .inl rfl, by decide⟩
theorem mdN_ok : mdN.Ok := ⟨by unfold mdN; decide, by unfold mdN; decide, by unfold mdN; decide, by unfold mdN; decide, by unfold mdN; decide, by unfold mdN; decide, .inr rfl, by decide⟩
theorem mdP_M : mdP.M = pp := by decide

def nn : Int := 115792089237316195423570985008687907852837564279074904382605163141518161494337
theorem mdN_M : mdN.M = nn := by decide

theorem refP_fn : Fn PG f_ref03_P [] mdP.tv := by
  refine fn_go h_ref03_P rfl (by kernel_rfl) (fun _ => by kernel_rfl) rfl rfl fun W0 => ?_
  conv => whnf
  kernel_rfl

theorem refN_fn : Fn PG f_ref03_N [] mdN.tv := by
  refine fn_go h_ref03_N rfl (by kernel_rfl) (fun _ => by kernel_rfl) rfl rfl fun W0 => ?_
  conv => whnf
  kernel_rfl

theorem refSmall_fn {n : Int} (hn : InU n) : Fn PG f_ref03_Small [.one (u n)] (W n) := by
  refine fn_go h_ref03_Small rfl (by kernel_rfl) (fun _ => by kernel_rfl) rfl rfl fun W0 => ?_
  conv => whnf
  have z : InU 0 := ⟨by omega, by omega⟩
  have h : n = val n 0 0 0 := by unfold val; omega
  have h2 := words_val hn z z z
  rw [← h] at h2
  show TV.agg [u n, u 0, u 0, u 0] = W n
  rw [W, h2]

theorem refFe_fn (x : Int) : Fn PG f_ref03_Fe [W x] (W x) := by
  refine fn_go h_ref03_Fe rfl (by kernel_rfl) (fun _ => by kernel_rfl) rfl rfl fun W0 => ?_
  conv => whnf
  rfl

theorem refScalar_fn (x : Int) : Fn PG f_ref03_Scalar [W x] (W x) := by
  refine fn_go h_ref03_Scalar rfl (by kernel_rfl) (fun _ => by kernel_rfl) rfl rfl fun W0 => ?_
  conv => whnf
  rfl

theorem refOf_fn (x : Int) : Fn PG f_ref03_Of [W x] (W x) := by
  refine fn_go h_ref03_Of rfl (by kernel_rfl) (fun _ => by kernel_rfl) rfl rfl fun W0 => ?_
  conv => whnf
  rfl

theorem refOfScalar_fn (x : Int) : Fn PG f_ref03_OfScalar [W x] (W x) := by
  refine fn_go h_ref03_OfScalar rfl (by kernel_rfl) (fun _ => by kernel_rfl) rfl rfl fun W0 => ?_
  conv => whnf
  rfl

theorem refMinus_fn {x y : Int} (hx : InW x) (hy : InW y) : Fn PG f_ref03_minus [W x, W y] (W ((x - y) % 115792089237316195423570985008687907853269984665640564039457584007913129639936)) := by
  obtain ⟨a0, a1, a2, a3, h0, h1, h2, h3, rfl⟩ := split4 hx
  obtain ⟨b0, b1, b2, b3, g0, g1, g2, g3, rfl⟩ := split4 hy
  simp only [W, words_val h0 h1 h2 h3, words_val g0 g1 g2 g3]
  refine fn_go h_ref03_minus rfl (by kernel_rfl) (fun _ => by kernel_rfl) rfl rfl fun W0 => ?_
  conv => whnf
  refine .inl ⟨5, ?_⟩
  conv => whnf
  refine ⟨by omega, ?_⟩
  intro s0 c0 e0 l0 u0 p0 q0
  conv => whnf
  refine ⟨by omega, ?_⟩
  intro s1 c1 e1 l1 u1 p1 q1
  conv => whnf
  refine ⟨by omega, ?_⟩
  intro s2 c2 e2 l2 u2 p2 q2
  conv => whnf
  refine ⟨by omega, ?_⟩
  intro s3 c3 e3 l3 u3 p3 q3
  conv => whnf
  have hs : (val a0 a1 a2 a3 - val b0 b1 b2 b3) % 115792089237316195423570985008687907853269984665640564039457584007913129639936 = val s0 s1 s2 s3 := by unfold val; omega
  rw [hs, words_val ⟨l0, u0⟩ ⟨l1, u1⟩ ⟨l2, u2⟩ ⟨l3, u3⟩]
  rfl

theorem refPlus_fn {x y : Int} (hx : InW x) (hy : InW y) : Fn PG f_ref03_add [W x, W y] (W ((x + y) % 115792089237316195423570985008687907853269984665640564039457584007913129639936)) := by
  obtain ⟨a0, a1, a2, a3, h0, h1, h2, h3, rfl⟩ := split4 hx
  obtain ⟨b0, b1, b2, b3, g0, g1, g2, g3, rfl⟩ := split4 hy
  simp only [W, words_val h0 h1 h2 h3, words_val g0 g1 g2 g3]
  refine fn_go h_ref03_add rfl (by kernel_rfl) (fun _ => by kernel_rfl) rfl rfl fun W0 => ?_
  conv => whnf
  refine .inl ⟨5, ?_⟩
  conv => whnf
  refine ⟨by omega, ?_⟩
  intro s0 c0 e0 l0 u0 p0
  conv => whnf
  refine ⟨by omega, ?_⟩
  intro s1 c1 e1 l1 u1 p1
  conv => whnf
  refine ⟨by omega, ?_⟩
  intro s2 c2 e2 l2 u2 p2
  conv => whnf
  refine ⟨by omega, ?_⟩
  intro s3 c3 e3 l3 u3 p3
  conv => whnf
  have hs : (val a0 a1 a2 a3 + val b0 b1 b2 b3) % 115792089237316195423570985008687907853269984665640564039457584007913129639936 = val s0 s1 s2 s3 := by unfold val; omega
  rw [hs, words_val ⟨l0, u0⟩ ⟨l1, u1⟩ ⟨l2, u2⟩ ⟨l3, u3⟩]
  rfl

theorem refBelow_fn {x y : Int} (hx : InW x) (hy : InW y) : Fn PG f_ref03_below [W x, W y] (.one (.bool (decide (x < y)))) := by
  obtain ⟨a0, a1, a2, a3, h0, h1, h2, h3, rfl⟩ := split4 hx
  obtain ⟨b0, b1, b2, b3, g0, g1, g2, g3, rfl⟩ := split4 hy
  simp only [W, words_val h0 h1 h2 h3, words_val g0 g1 g2 g3]
  refine fn_go h_ref03_below rfl (by kernel_rfl) (fun _ => by kernel_rfl) rfl rfl fun W0 => ?_
  conv => whnf
  refine .inl ⟨5, ?_⟩
  conv => whnf
  split
  · rename_i k3
    have k3 : a3 ≠ b3 := by simpa using k3
    conv => whnf
    have : decide (val a0 a1 a2 a3 < val b0 b1 b2 b3) = decide (a3 < b3) := by
      unfold val; apply decide_eq_decide.2; omega
    rw [this]
    rfl
  · rename_i k3
    have k3 : a3 = b3 := by simpa using k3
    conv => whnf
    split
    · rename_i k2
      have k2 : a2 ≠ b2 := by simpa using k2
      conv => whnf
      have : decide (val a0 a1 a2 a3 < val b0 b1 b2 b3) = decide (a2 < b2) := by
        unfold val; apply decide_eq_decide.2; omega
      rw [this]
      rfl
    · rename_i k2
      have k2 : a2 = b2 := by simpa using k2
      conv => whnf
      split
      · rename_i k1
        have k1 : a1 ≠ b1 := by simpa using k1
        conv => whnf
        have : decide (val a0 a1 a2 a3 < val b0 b1 b2 b3) = decide (a1 < b1) := by
          unfold val; apply decide_eq_decide.2; omega
        rw [this]
        rfl
      · rename_i k1
        have k1 : a1 = b1 := by simpa using k1
        conv => whnf
        split
        · rename_i k0
          have k0 : a0 ≠ b0 := by simpa using k0
          conv => whnf
          have : decide (val a0 a1 a2 a3 < val b0 b1 b2 b3) = decide (a0 < b0) := by
            unfold val; apply decide_eq_decide.2; omega
          rw [this]
          rfl
        · rename_i k0
          have k0 : a0 = b0 := by simpa using k0
          conv => whnf
          have : decide (val a0 a1 a2 a3 < val b0 b1 b2 b3) = false := by
            unfold val; apply decide_eq_false; omega
          rw [this]
          rfl

theorem MD.Ok.inW {D : MD} (h : D.Ok) : InW D.M := by
  have := h.m0; have := h.m1; have := h.m2; have := h.m3
  unfold MD.M val
  exact ⟨by omega, by omega⟩

theorem MD.Ok.words {D : MD} (h : D.Ok) : Ev.words D.M = [u D.m0, u D.m1, u D.m2, u D.m3] := words_val h.m0 h.m1 h.m2 h.m3

theorem MD.Ok.big {D : MD} (h : D.Ok) : 57896044618658097711785492504343953926634992332820282019728792003956564819968 < D.M := by
  have h1 := h.sum
  have := h.l0; have := h.l1
  have h2 := h.l2
  unfold MD.L at h1
  omega

theorem refNorm_fn {D : MD} (hD : D.Ok) {x : Int} (hx : InW x) : Fn PG f_ref03_Norm [D.tv, W x] (W (x % D.M)) := by
  refine fn_go h_ref03_Norm rfl (by kernel_rfl) (fun _ => by kernel_rfl) rfl rfl fun W0 => ?_
  have hM := hD.inW
  have hw : W D.M = .agg [u D.m0, u D.m1, u D.m2, u D.m3] := by unfold W; rw [hD.words]
  have hb := hD.big
  have hbelow := refBelow_fn hx hM
  have hminus := refMinus_fn hx hM
  rw [hw] at hbelow hminus
  conv => whnf
  refine ⟨_, hbelow.2 _ _, rfl, ?_⟩
  conv => whnf
  split
  · rename_i h
    have h := of_decide_eq_true h
    conv => whnf
    have : x % D.M = x := Int.emod_eq_of_lt hx.1 h
    rw [this]
    rfl
  · rename_i h
    have h := of_decide_eq_false h
    conv => whnf
    refine ⟨_, hminus.2 _ _, rfl, ?_⟩
    conv => whnf
    have e : x % D.M = (x - D.M) % 115792089237316195423570985008687907853269984665640564039457584007913129639936 := by
      generalize D.M = M at *
      rw [← Int.sub_emod_right x M, Int.emod_eq_of_lt (by omega) (by omega), Int.emod_eq_of_lt (by omega) (by omega)]
    rw [e]
    rfl

end Go.Ev

import Derived.Test.YtmappjgknpldpaaSc3
namespace Go.Ev

theorem mul_val (a b0 b1 b2 b3 : Int) : a * val b0 b1 b2 b3 = a * b0 + 18446744073709551616 * (a * b1) + 340282366920938463463374607431768211456 * (a * b2) + 6277101735386680763835789423207666416102355444464034512896 * (a * b3) := by
  rw [Int.mul_comm a, val_mul, Int.mul_comm b0, Int.mul_comm b1, Int.mul_comm b2, Int.mul_comm b3]

theorem ap_bound {a0 a1 a2 a3 b0 b1 b2 b3 : Int} (ha : InU a0 ∧ InU a1 ∧ InU a2 ∧ InU a3) (hb : InU b0 ∧ InU b1 ∧ InU b2 ∧ InU b3) {i : Nat} (hi : i ≤ 4) : ap a0 a1 a2 a3 i * val b0 b1 b2 b3 < 13407807929942597099574024998205846127479365820592393377723561443721764030073546976801874298166903427690031858186486050853753882811946569946433649006084096 := by
  obtain ⟨h0, h1, h2, h3⟩ := ha
  obtain ⟨g0, g1, g2, g3⟩ := hb
  have a : 0 ≤ ap a0 a1 a2 a3 i ∧ ap a0 a1 a2 a3 i ≤ 115792089237316195423570985008687907853269984665640564039457584007913129639935 := by
    obtain rfl | rfl | rfl | rfl | rfl : i = 0 ∨ i = 1 ∨ i = 2 ∨ i = 3 ∨ i = 4 := by omega
    all_goals simp only [ap, val]
    all_goals exact ⟨by omega, by omega⟩
  have b : 0 ≤ val b0 b1 b2 b3 ∧ val b0 b1 b2 b3 ≤ 115792089237316195423570985008687907853269984665640564039457584007913129639935 := by unfold val; exact ⟨by omega, by omega⟩
  have := Int.mul_le_mul a.2 b.2 b.1 (by omega)
  omega

def scmEnv (a0 a1 a2 a3 : Int) (i : Nat) : Env := [(11, .one (.int .i64 i)), (10, .agg [u a0, u a1, u a2, u a3]), (5, .one (.ptr (some (.loc 3 0)))), (4, .one (.ptr (some (.loc 2 0)))), (3, .one (.ptr (some (.loc 1 0)))), (2, .one (.ptr (some (.loc 0 0))))]
def scmMem (a0 a1 a2 a3 b0 b1 b2 b3 : Int) (t0 t1 t2 t3 : Nat) (w0 w1 w2 w3 w4 w5 w6 w7 : Int) : Mem := [some ⟨[u a0, u a1, u a2, u a3], t0, 0, false⟩, some ⟨[u b0, u b1, u b2, u b3], t1, 0, false⟩,
  some ⟨[u 0, u 0, u 0, u 0], t2, 0, false⟩, some ⟨[u w0, u w1, u w2, u w3, u w4, u w5, u w6, u w7], t3, 0, false⟩]

def ScmI (a0 a1 a2 a3 b0 b1 b2 b3 : Int) (k : Nat) (e : Env) (m : Mem) : Prop :=
  ∃ (i : Nat) (w0 w1 w2 w3 w4 w5 w6 w7 : Int) (t0 t1 t2 t3 : Nat), i ≤ 4 ∧ k = 4 - i ∧ In8 w0 w1 w2 w3 w4 w5 w6 w7 ∧ val8 w0 w1 w2 w3 w4 w5 w6 w7 = ap a0 a1 a2 a3 i * val b0 b1 b2 b3 ∧
    e = scmEnv a0 a1 a2 a3 i ∧ m = scmMem a0 a1 a2 a3 b0 b1 b2 b3 t0 t1 t2 t3 w0 w1 w2 w3 w4 w5 w6 w7

set_option maxHeartbeats 1000000 in
theorem scmRow0 {a0 a1 a2 a3 b0 b1 b2 b3 w0 w1 w2 w3 w4 w5 w6 w7 : Int} {t0 t1 t2 t3 : Nat} (ha : InU a0 ∧ InU a1 ∧ InU a2 ∧ InU a3) (hb : InU b0 ∧ InU b1 ∧ InU b2 ∧ InU b3) (hw : In8 w0 w1 w2 w3 w4 w5 w6 w7) (hE0 : val8 w0 w1 w2 w3 w4 w5 w6 w7 = ap a0 a1 a2 a3 0 * val b0 b1 b2 b3) (W0 : World) (Q : Exit → Env → Mem → Prop) :
    swp (GG W0) (lp F_scalar_Mul 0) (fun x e1 m1 => match x with
      | .normal => ∃ j e2 m2, j < 4 - 0 ∧ Wk (scmMem a0 a1 a2 a3 b0 b1 b2 b3 t0 t1 t2 t3 w0 w1 w2 w3 w4 w5 w6 w7).length e1 m1 e2 m2 ∧ ScmI a0 a1 a2 a3 b0 b1 b2 b3 j e2 m2
      | x => Q x e1 m1) (scmEnv a0 a1 a2 a3 0) (scmMem a0 a1 a2 a3 b0 b1 b2 b3 t0 t1 t2 t3 w0 w1 w2 w3 w4 w5 w6 w7) := by
  have hS := ap_succ a0 a1 a2 a3 (val b0 b1 b2 b3)
  have hTb := ap_bound ha hb (i := 1) (by decide)
  obtain ⟨ha0, ha1, ha2, ha3⟩ := ha
  obtain ⟨hb0, hb1, hb2, hb3⟩ := hb
  have hv := val8_nonneg hw
  have p0 := prod_le ha0 hb0
  have p1 := prod_le ha0 hb1
  have p2 := prod_le ha0 hb2
  have p3 := prod_le ha0 hb3
  have hsum : ap a0 a1 a2 a3 1 * val b0 b1 b2 b3 = val8 w0 w1 w2 w3 w4 w5 w6 w7 + q64 0 * (a0 * b0) + q64 1 * (a0 * b1) + q64 2 * (a0 * b2) + q64 3 * (a0 * b3) := by
    rw [hS.2.1, hE0, mul_val a0]
    simp only [q64]
    omega
  have hx3 := hTb
  rw [hsum] at hx3
  have hx2 : val8 w0 w1 w2 w3 w4 w5 w6 w7 + q64 0 * (a0 * b0) + q64 1 * (a0 * b1) + q64 2 * (a0 * b2) < 13407807929942597099574024998205846127479365820592393377723561443721764030073546976801874298166903427690031858186486050853753882811946569946433649006084096 := by simp only [q64] at hx3 ⊢; omega
  have hx1 : val8 w0 w1 w2 w3 w4 w5 w6 w7 + q64 0 * (a0 * b0) + q64 1 * (a0 * b1) < 13407807929942597099574024998205846127479365820592393377723561443721764030073546976801874298166903427690031858186486050853753882811946569946433649006084096 := by simp only [q64] at hx3 ⊢; omega
  have hx0 : val8 w0 w1 w2 w3 w4 w5 w6 w7 + q64 0 * (a0 * b0) < 13407807929942597099574024998205846127479365820592393377723561443721764030073546976801874298166903427690031858186486050853753882811946569946433649006084096 := by simp only [q64] at hx3 ⊢; omega
  have n0 : 0 ≤ val8 w0 w1 w2 w3 w4 w5 w6 w7 + q64 0 * (a0 * b0) := by simp only [q64]; omega
  have n1 : 0 ≤ val8 w0 w1 w2 w3 w4 w5 w6 w7 + q64 0 * (a0 * b0) + q64 1 * (a0 * b1) := by simp only [q64]; omega
  have n2 : 0 ≤ val8 w0 w1 w2 w3 w4 w5 w6 w7 + q64 0 * (a0 * b0) + q64 1 * (a0 * b1) + q64 2 * (a0 * b2) := by simp only [q64]; omega
  have n3 : 0 ≤ val8 w0 w1 w2 w3 w4 w5 w6 w7 + q64 0 * (a0 * b0) + q64 1 * (a0 * b1) + q64 2 * (a0 * b2) + q64 3 * (a0 * b3) := by simp only [q64]; omega
  clear hS hE0 hTb p0 p1 p2 p3 hv
  conv => whnf
  refine .inl ⟨5, ?_⟩
  conv => whnf
  refine ⟨_, CALL.frame (b := 3) (blk := ⟨[u w0, u w1, u w2, u w3, u w4, u w5, u w6, u w7], t3, 0, false⟩) rfl rfl (fun c => rfl) rfl (gather0 hw ha0 hb0 t3 hx0 W0), ⟨_, _, rfl, _, rfl, (gaR_ex n0 hx0 t3).choose_spec⟩, ?_⟩
  rintro v m' ⟨rfl, kk, rfl, c0, c1, c2, c3, c4, c5, c6, c7, hc, ec, rfl⟩
  rw [← ec] at hx1 hx2 hx3 n1 n2 n3 hsum
  conv => whnf
  refine ⟨_, CALL.frame (b := 3) (blk := ⟨[u c0, u c1, u c2, u c3, u c4, u c5, u c6, u c7], t3, 0, false⟩) rfl rfl (fun c => rfl) rfl (gather1 hc ha0 hb1 t3 hx1 W0), ⟨_, _, rfl, _, rfl, (gaR_ex n1 hx1 t3).choose_spec⟩, ?_⟩
  rintro v m' ⟨rfl, kk, rfl, d0, d1, d2, d3, d4, d5, d6, d7, hd, ed, rfl⟩
  rw [← ed] at hx2 hx3 n2 n3 hsum
  conv => whnf
  refine ⟨_, CALL.frame (b := 3) (blk := ⟨[u d0, u d1, u d2, u d3, u d4, u d5, u d6, u d7], t3, 0, false⟩) rfl rfl (fun c => rfl) rfl (gather2 hd ha0 hb2 t3 hx2 W0), ⟨_, _, rfl, _, rfl, (gaR_ex n2 hx2 t3).choose_spec⟩, ?_⟩
  rintro v m' ⟨rfl, kk, rfl, f0, f1, f2, f3, f4, f5, f6, f7, hf, ef, rfl⟩
  rw [← ef] at hx3 n3 hsum
  conv => whnf
  refine ⟨_, CALL.frame (b := 3) (blk := ⟨[u f0, u f1, u f2, u f3, u f4, u f5, u f6, u f7], t3, 0, false⟩) rfl rfl (fun c => rfl) rfl (gather3 hf ha0 hb3 t3 hx3 W0), ⟨_, _, rfl, _, rfl, (gaR_ex n3 hx3 t3).choose_spec⟩, ?_⟩
  rintro v m' ⟨rfl, kk, rfl, g0, g1, g2, g3, g4, g5, g6, g7, hg, eg, rfl⟩
  rw [← eg] at hsum
  conv => whnf
  refine ⟨3, _, _, by decide, wk_of (by (repeat' apply And.intro) <;> first | trivial | rfl) (by (repeat' apply And.intro) <;> first | trivial | rfl) (Nat.le_refl _) (Nat.le_refl _), ⟨1, g0, g1, g2, g3, g4, g5, g6, g7, t0, t1, t2, t3, by decide, by decide, hg, hsum.symm, rfl, rfl⟩⟩

set_option maxHeartbeats 1000000 in
theorem scmRow1 {a0 a1 a2 a3 b0 b1 b2 b3 w0 w1 w2 w3 w4 w5 w6 w7 : Int} {t0 t1 t2 t3 : Nat} (ha : InU a0 ∧ InU a1 ∧ InU a2 ∧ InU a3) (hb : InU b0 ∧ InU b1 ∧ InU b2 ∧ InU b3) (hw : In8 w0 w1 w2 w3 w4 w5 w6 w7) (hE0 : val8 w0 w1 w2 w3 w4 w5 w6 w7 = ap a0 a1 a2 a3 1 * val b0 b1 b2 b3) (W0 : World) (Q : Exit → Env → Mem → Prop) :
    swp (GG W0) (lp F_scalar_Mul 0) (fun x e1 m1 => match x with
      | .normal => ∃ j e2 m2, j < 4 - 1 ∧ Wk (scmMem a0 a1 a2 a3 b0 b1 b2 b3 t0 t1 t2 t3 w0 w1 w2 w3 w4 w5 w6 w7).length e1 m1 e2 m2 ∧ ScmI a0 a1 a2 a3 b0 b1 b2 b3 j e2 m2
      | x => Q x e1 m1) (scmEnv a0 a1 a2 a3 1) (scmMem a0 a1 a2 a3 b0 b1 b2 b3 t0 t1 t2 t3 w0 w1 w2 w3 w4 w5 w6 w7) := by
  have hS := ap_succ a0 a1 a2 a3 (val b0 b1 b2 b3)
  have hTb := ap_bound ha hb (i := 2) (by decide)
  obtain ⟨ha0, ha1, ha2, ha3⟩ := ha
  obtain ⟨hb0, hb1, hb2, hb3⟩ := hb
  have hv := val8_nonneg hw
  have p0 := prod_le ha1 hb0
  have p1 := prod_le ha1 hb1
  have p2 := prod_le ha1 hb2
  have p3 := prod_le ha1 hb3
  have hsum : ap a0 a1 a2 a3 2 * val b0 b1 b2 b3 = val8 w0 w1 w2 w3 w4 w5 w6 w7 + q64 1 * (a1 * b0) + q64 2 * (a1 * b1) + q64 3 * (a1 * b2) + q64 4 * (a1 * b3) := by
    rw [hS.2.2.1, hE0, mul_val a1]
    simp only [q64]
    omega
  have hx3 := hTb
  rw [hsum] at hx3
  have hx2 : val8 w0 w1 w2 w3 w4 w5 w6 w7 + q64 1 * (a1 * b0) + q64 2 * (a1 * b1) + q64 3 * (a1 * b2) < 13407807929942597099574024998205846127479365820592393377723561443721764030073546976801874298166903427690031858186486050853753882811946569946433649006084096 := by simp only [q64] at hx3 ⊢; omega
  have hx1 : val8 w0 w1 w2 w3 w4 w5 w6 w7 + q64 1 * (a1 * b0) + q64 2 * (a1 * b1) < 13407807929942597099574024998205846127479365820592393377723561443721764030073546976801874298166903427690031858186486050853753882811946569946433649006084096 := by simp only [q64] at hx3 ⊢; omega
  have hx0 : val8 w0 w1 w2 w3 w4 w5 w6 w7 + q64 1 * (a1 * b0) < 13407807929942597099574024998205846127479365820592393377723561443721764030073546976801874298166903427690031858186486050853753882811946569946433649006084096 := by simp only [q64] at hx3 ⊢; omega
  have n0 : 0 ≤ val8 w0 w1 w2 w3 w4 w5 w6 w7 + q64 1 * (a1 * b0) := by simp only [q64]; omega
  have n1 : 0 ≤ val8 w0 w1 w2 w3 w4 w5 w6 w7 + q64 1 * (a1 * b0) + q64 2 * (a1 * b1) := by simp only [q64]; omega
  have n2 : 0 ≤ val8 w0 w1 w2 w3 w4 w5 w6 w7 + q64 1 * (a1 * b0) + q64 2 * (a1 * b1) + q64 3 * (a1 * b2) := by simp only [q64]; omega
  have n3 : 0 ≤ val8 w0 w1 w2 w3 w4 w5 w6 w7 + q64 1 * (a1 * b0) + q64 2 * (a1 * b1) + q64 3 * (a1 * b2) + q64 4 * (a1 * b3) := by simp only [q64]; omega
  clear hS hE0 hTb p0 p1 p2 p3 hv
  conv => whnf
  refine .inl ⟨5, ?_⟩
  conv => whnf
  refine ⟨_, CALL.frame (b := 3) (blk := ⟨[u w0, u w1, u w2, u w3, u w4, u w5, u w6, u w7], t3, 0, false⟩) rfl rfl (fun c => rfl) rfl (gather1 hw ha1 hb0 t3 hx0 W0), ⟨_, _, rfl, _, rfl, (gaR_ex n0 hx0 t3).choose_spec⟩, ?_⟩
  rintro v m' ⟨rfl, kk, rfl, c0, c1, c2, c3, c4, c5, c6, c7, hc, ec, rfl⟩
  rw [← ec] at hx1 hx2 hx3 n1 n2 n3 hsum
  conv => whnf
  refine ⟨_, CALL.frame (b := 3) (blk := ⟨[u c0, u c1, u c2, u c3, u c4, u c5, u c6, u c7], t3, 0, false⟩) rfl rfl (fun c => rfl) rfl (gather2 hc ha1 hb1 t3 hx1 W0), ⟨_, _, rfl, _, rfl, (gaR_ex n1 hx1 t3).choose_spec⟩, ?_⟩
  rintro v m' ⟨rfl, kk, rfl, d0, d1, d2, d3, d4, d5, d6, d7, hd, ed, rfl⟩
  rw [← ed] at hx2 hx3 n2 n3 hsum
  conv => whnf
  refine ⟨_, CALL.frame (b := 3) (blk := ⟨[u d0, u d1, u d2, u d3, u d4, u d5, u d6, u d7], t3, 0, false⟩) rfl rfl (fun c => rfl) rfl (gather3 hd ha1 hb2 t3 hx2 W0), ⟨_, _, rfl, _, rfl, (gaR_ex n2 hx2 t3).choose_spec⟩, ?_⟩
  rintro v m' ⟨rfl, kk, rfl, f0, f1, f2, f3, f4, f5, f6, f7, hf, ef, rfl⟩
  rw [← ef] at hx3 n3 hsum
  conv => whnf
  refine ⟨_, CALL.frame (b := 3) (blk := ⟨[u f0, u f1, u f2, u f3, u f4, u f5, u f6, u f7], t3, 0, false⟩) rfl rfl (fun c => rfl) rfl (gather4 hf ha1 hb3 t3 hx3 W0), ⟨_, _, rfl, _, rfl, (gaR_ex n3 hx3 t3).choose_spec⟩, ?_⟩
  rintro v m' ⟨rfl, kk, rfl, g0, g1, g2, g3, g4, g5, g6, g7, hg, eg, rfl⟩
  rw [← eg] at hsum
  conv => whnf
  refine ⟨2, _, _, by decide, wk_of (by (repeat' apply And.intro) <;> first | trivial | rfl) (by (repeat' apply And.intro) <;> first | trivial | rfl) (Nat.le_refl _) (Nat.le_refl _), ⟨2, g0, g1, g2, g3, g4, g5, g6, g7, t0, t1, t2, t3, by decide, by decide, hg, hsum.symm, rfl, rfl⟩⟩

set_option maxHeartbeats 1000000 in
theorem scmRow2 {a0 a1 a2 a3 b0 b1 b2 b3 w0 w1 w2 w3 w4 w5 w6 w7 : Int} {t0 t1 t2 t3 : Nat} (ha : InU a0 ∧ InU a1 ∧ InU a2 ∧ InU a3) (hb : InU b0 ∧ InU b1 ∧ InU b2 ∧ InU b3) (hw : In8 w0 w1 w2 w3 w4 w5 w6 w7) (hE0 : val8 w0 w1 w2 w3 w4 w5 w6 w7 = ap a0 a1 a2 a3 2 * val b0 b1 b2 b3) (W0 : World) (Q : Exit → Env → Mem → Prop) :
    swp (GG W0) (lp F_scalar_Mul 0) (fun x e1 m1 => match x with
      | .normal => ∃ j e2 m2, j < 4 - 2 ∧ Wk (scmMem a0 a1 a2 a3 b0 b1 b2 b3 t0 t1 t2 t3 w0 w1 w2 w3 w4 w5 w6 w7).length e1 m1 e2 m2 ∧ ScmI a0 a1 a2 a3 b0 b1 b2 b3 j e2 m2
      | x => Q x e1 m1) (scmEnv a0 a1 a2 a3 2) (scmMem a0 a1 a2 a3 b0 b1 b2 b3 t0 t1 t2 t3 w0 w1 w2 w3 w4 w5 w6 w7) := by
  have hS := ap_succ a0 a1 a2 a3 (val b0 b1 b2 b3)
  have hTb := ap_bound ha hb (i := 3) (by decide)
  obtain ⟨ha0, ha1, ha2, ha3⟩ := ha
  obtain ⟨hb0, hb1, hb2, hb3⟩ := hb
  have hv := val8_nonneg hw
  have p0 := prod_le ha2 hb0
  have p1 := prod_le ha2 hb1
  have p2 := prod_le ha2 hb2
  have p3 := prod_le ha2 hb3
  have hsum : ap a0 a1 a2 a3 3 * val b0 b1 b2 b3 = val8 w0 w1 w2 w3 w4 w5 w6 w7 + q64 2 * (a2 * b0) + q64 3 * (a2 * b1) + q64 4 * (a2 * b2) + q64 5 * (a2 * b3) := by
    rw [hS.2.2.2.1, hE0, mul_val a2]
    simp only [q64]
    omega
  have hx3 := hTb
  rw [hsum] at hx3
  have hx2 : val8 w0 w1 w2 w3 w4 w5 w6 w7 + q64 2 * (a2 * b0) + q64 3 * (a2 * b1) + q64 4 * (a2 * b2) < 13407807929942597099574024998205846127479365820592393377723561443721764030073546976801874298166903427690031858186486050853753882811946569946433649006084096 := by simp only [q64] at hx3 ⊢; omega
  have hx1 : val8 w0 w1 w2 w3 w4 w5 w6 w7 + q64 2 * (a2 * b0) + q64 3 * (a2 * b1) < 13407807929942597099574024998205846127479365820592393377723561443721764030073546976801874298166903427690031858186486050853753882811946569946433649006084096 := by simp only [q64] at hx3 ⊢; omega
  have hx0 : val8 w0 w1 w2 w3 w4 w5 w6 w7 + q64 2 * (a2 * b0) < 13407807929942597099574024998205846127479365820592393377723561443721764030073546976801874298166903427690031858186486050853753882811946569946433649006084096 := by simp only [q64] at hx3 ⊢; omega
  have n0 : 0 ≤ val8 w0 w1 w2 w3 w4 w5 w6 w7 + q64 2 * (a2 * b0) := by simp only [q64]; omega
  have n1 : 0 ≤ val8 w0 w1 w2 w3 w4 w5 w6 w7 + q64 2 * (a2 * b0) + q64 3 * (a2 * b1) := by simp only [q64]; omega
  have n2 : 0 ≤ val8 w0 w1 w2 w3 w4 w5 w6 w7 + q64 2 * (a2 * b0) + q64 3 * (a2 * b1) + q64 4 * (a2 * b2) := by simp only [q64]; omega
  have n3 : 0 ≤ val8 w0 w1 w2 w3 w4 w5 w6 w7 + q64 2 * (a2 * b0) + q64 3 * (a2 * b1) + q64 4 * (a2 * b2) + q64 5 * (a2 * b3) := by simp only [q64]; omega
  clear hS hE0 hTb p0 p1 p2 p3 hv
  conv => whnf
  refine .inl ⟨5, ?_⟩
  conv => whnf
  refine ⟨_, CALL.frame (b := 3) (blk := ⟨[u w0, u w1, u w2, u w3, u w4, u w5, u w6, u w7], t3, 0, false⟩) rfl rfl (fun c => rfl) rfl (gather2 hw ha2 hb0 t3 hx0 W0), ⟨_, _, rfl, _, rfl, (gaR_ex n0 hx0 t3).choose_spec⟩, ?_⟩
  rintro v m' ⟨rfl, kk, rfl, c0, c1, c2, c3, c4, c5, c6, c7, hc, ec, rfl⟩
  rw [← ec] at hx1 hx2 hx3 n1 n2 n3 hsum
  conv => whnf
  refine ⟨_, CALL.frame (b := 3) (blk := ⟨[u c0, u c1, u c2, u c3, u c4, u c5, u c6, u c7], t3, 0, false⟩) rfl rfl (fun c => rfl) rfl (gather3 hc ha2 hb1 t3 hx1 W0), ⟨_, _, rfl, _, rfl, (gaR_ex n1 hx1 t3).choose_spec⟩, ?_⟩
  rintro v m' ⟨rfl, kk, rfl, d0, d1, d2, d3, d4, d5, d6, d7, hd, ed, rfl⟩
  rw [← ed] at hx2 hx3 n2 n3 hsum
  conv => whnf
  refine ⟨_, CALL.frame (b := 3) (blk := ⟨[u d0, u d1, u d2, u d3, u d4, u d5, u d6, u d7], t3, 0, false⟩) rfl rfl (fun c => rfl) rfl (gather4 hd ha2 hb2 t3 hx2 W0), ⟨_, _, rfl, _, rfl, (gaR_ex n2 hx2 t3).choose_spec⟩, ?_⟩
  rintro v m' ⟨rfl, kk, rfl, f0, f1, f2, f3, f4, f5, f6, f7, hf, ef, rfl⟩
  rw [← ef] at hx3 n3 hsum
  conv => whnf
  refine ⟨_, CALL.frame (b := 3) (blk := ⟨[u f0, u f1, u f2, u f3, u f4, u f5, u f6, u f7], t3, 0, false⟩) rfl rfl (fun c => rfl) rfl (gather5 hf ha2 hb3 t3 hx3 W0), ⟨_, _, rfl, _, rfl, (gaR_ex n3 hx3 t3).choose_spec⟩, ?_⟩
  rintro v m' ⟨rfl, kk, rfl, g0, g1, g2, g3, g4, g5, g6, g7, hg, eg, rfl⟩
  rw [← eg] at hsum
  conv => whnf
  refine ⟨1, _, _, by decide, wk_of (by (repeat' apply And.intro) <;> first | trivial | rfl) (by (repeat' apply And.intro) <;> first | trivial | rfl) (Nat.le_refl _) (Nat.le_refl _), ⟨3, g0, g1, g2, g3, g4, g5, g6, g7, t0, t1, t2, t3, by decide, by decide, hg, hsum.symm, rfl, rfl⟩⟩

set_option maxHeartbeats 1000000 in
theorem scmRow3 {a0 a1 a2 a3 b0 b1 b2 b3 w0 w1 w2 w3 w4 w5 w6 w7 : Int} {t0 t1 t2 t3 : Nat} (ha : InU a0 ∧ InU a1 ∧ InU a2 ∧ InU a3) (hb : InU b0 ∧ InU b1 ∧ InU b2 ∧ InU b3) (hw : In8 w0 w1 w2 w3 w4 w5 w6 w7) (hE0 : val8 w0 w1 w2 w3 w4 w5 w6 w7 = ap a0 a1 a2 a3 3 * val b0 b1 b2 b3) (W0 : World) (Q : Exit → Env → Mem → Prop) :
    swp (GG W0) (lp F_scalar_Mul 0) (fun x e1 m1 => match x with
      | .normal => ∃ j e2 m2, j < 4 - 3 ∧ Wk (scmMem a0 a1 a2 a3 b0 b1 b2 b3 t0 t1 t2 t3 w0 w1 w2 w3 w4 w5 w6 w7).length e1 m1 e2 m2 ∧ ScmI a0 a1 a2 a3 b0 b1 b2 b3 j e2 m2
      | x => Q x e1 m1) (scmEnv a0 a1 a2 a3 3) (scmMem a0 a1 a2 a3 b0 b1 b2 b3 t0 t1 t2 t3 w0 w1 w2 w3 w4 w5 w6 w7) := by
  have hS := ap_succ a0 a1 a2 a3 (val b0 b1 b2 b3)
  have hTb := ap_bound ha hb (i := 4) (by decide)
  obtain ⟨ha0, ha1, ha2, ha3⟩ := ha
  obtain ⟨hb0, hb1, hb2, hb3⟩ := hb
  have hv := val8_nonneg hw
  have p0 := prod_le ha3 hb0
  have p1 := prod_le ha3 hb1
  have p2 := prod_le ha3 hb2
  have p3 := prod_le ha3 hb3
  have hsum : ap a0 a1 a2 a3 4 * val b0 b1 b2 b3 = val8 w0 w1 w2 w3 w4 w5 w6 w7 + q64 3 * (a3 * b0) + q64 4 * (a3 * b1) + q64 5 * (a3 * b2) + q64 6 * (a3 * b3) := by
    rw [hS.2.2.2.2, hE0, mul_val a3]
    simp only [q64]
    omega
  have hx3 := hTb
  rw [hsum] at hx3
  have hx2 : val8 w0 w1 w2 w3 w4 w5 w6 w7 + q64 3 * (a3 * b0) + q64 4 * (a3 * b1) + q64 5 * (a3 * b2) < 13407807929942597099574024998205846127479365820592393377723561443721764030073546976801874298166903427690031858186486050853753882811946569946433649006084096 := by simp only [q64] at hx3 ⊢; omega
  have hx1 : val8 w0 w1 w2 w3 w4 w5 w6 w7 + q64 3 * (a3 * b0) + q64 4 * (a3 * b1) < 13407807929942597099574024998205846127479365820592393377723561443721764030073546976801874298166903427690031858186486050853753882811946569946433649006084096 := by simp only [q64] at hx3 ⊢; omega
  have hx0 : val8 w0 w1 w2 w3 w4 w5 w6 w7 + q64 3 * (a3 * b0) < 13407807929942597099574024998205846127479365820592393377723561443721764030073546976801874298166903427690031858186486050853753882811946569946433649006084096 := by simp only [q64] at hx3 ⊢; omega
  have n0 : 0 ≤ val8 w0 w1 w2 w3 w4 w5 w6 w7 + q64 3 * (a3 * b0) := by simp only [q64]; omega
  have n1 : 0 ≤ val8 w0 w1 w2 w3 w4 w5 w6 w7 + q64 3 * (a3 * b0) + q64 4 * (a3 * b1) := by simp only [q64]; omega
  have n2 : 0 ≤ val8 w0 w1 w2 w3 w4 w5 w6 w7 + q64 3 * (a3 * b0) + q64 4 * (a3 * b1) + q64 5 * (a3 * b2) := by simp only [q64]; omega
  have n3 : 0 ≤ val8 w0 w1 w2 w3 w4 w5 w6 w7 + q64 3 * (a3 * b0) + q64 4 * (a3 * b1) + q64 5 * (a3 * b2) + q64 6 * (a3 * b3) := by simp only [q64]; omega
  clear hS hE0 hTb p0 p1 p2 p3 hv
  conv => whnf
  refine .inl ⟨5, ?_⟩
  conv => whnf
  refine ⟨_, CALL.frame (b := 3) (blk := ⟨[u w0, u w1, u w2, u w3, u w4, u w5, u w6, u w7], t3, 0, false⟩) rfl rfl (fun c => rfl) rfl (gather3 hw ha3 hb0 t3 hx0 W0), ⟨_, _, rfl, _, rfl, (gaR_ex n0 hx0 t3).choose_spec⟩, ?_⟩
  rintro v m' ⟨rfl, kk, rfl, c0, c1, c2, c3, c4, c5, c6, c7, hc, ec, rfl⟩
  rw [← ec] at hx1 hx2 hx3 n1 n2 n3 hsum
  conv => whnf
  refine ⟨_, CALL.frame (b := 3) (blk := ⟨[u c0, u c1, u c2, u c3, u c4, u c5, u c6, u c7], t3, 0, false⟩) rfl rfl (fun c => rfl) rfl (gather4 hc ha3 hb1 t3 hx1 W0), ⟨_, _, rfl, _, rfl, (gaR_ex n1 hx1 t3).choose_spec⟩, ?_⟩
  rintro v m' ⟨rfl, kk, rfl, d0, d1, d2, d3, d4, d5, d6, d7, hd, ed, rfl⟩
  rw [← ed] at hx2 hx3 n2 n3 hsum
  conv => whnf
  refine ⟨_, CALL.frame (b := 3) (blk := ⟨[u d0, u d1, u d2, u d3, u d4, u d5, u d6, u d7], t3, 0, false⟩) rfl rfl (fun c => rfl) rfl (gather5 hd ha3 hb2 t3 hx2 W0), ⟨_, _, rfl, _, rfl, (gaR_ex n2 hx2 t3).choose_spec⟩, ?_⟩
  rintro v m' ⟨rfl, kk, rfl, f0, f1, f2, f3, f4, f5, f6, f7, hf, ef, rfl⟩
  rw [← ef] at hx3 n3 hsum
  conv => whnf
  refine ⟨_, CALL.frame (b := 3) (blk := ⟨[u f0, u f1, u f2, u f3, u f4, u f5, u f6, u f7], t3, 0, false⟩) rfl rfl (fun c => rfl) rfl (gather6 hf ha3 hb3 t3 hx3 W0), ⟨_, _, rfl, _, rfl, (gaR_ex n3 hx3 t3).choose_spec⟩, ?_⟩
  rintro v m' ⟨rfl, kk, rfl, g0, g1, g2, g3, g4, g5, g6, g7, hg, eg, rfl⟩
  rw [← eg] at hsum
  conv => whnf
  refine ⟨0, _, _, by decide, wk_of (by (repeat' apply And.intro) <;> first | trivial | rfl) (by (repeat' apply And.intro) <;> first | trivial | rfl) (Nat.le_refl _) (Nat.le_refl _), ⟨4, g0, g1, g2, g3, g4, g5, g6, g7, t0, t1, t2, t3, by decide, by decide, hg, hsum.symm, rfl, rfl⟩⟩

set_option maxHeartbeats 1000000 in
theorem scMul_fn {x y : Int} (hx : InW x) (hy : InW y) : Fn PG f_scalar_Mul [W x, W y] (W (x * y % nn)) := by
  obtain ⟨a0, a1, a2, a3, ha0, ha1, ha2, ha3, rfl⟩ := split4 hx
  obtain ⟨b0, b1, b2, b3, hb0, hb1, hb2, hb3, rfl⟩ := split4 hy
  simp only [W, words_val ha0 ha1 ha2 ha3, words_val hb0 hb1 hb2 hb3]
  have z0 : InU 0 := ⟨by omega, by omega⟩
  clear hx hy
  refine fn_go h_scalar_Mul rfl (by kernel_rfl) (fun _ => by kernel_rfl) rfl rfl fun W0 => ?_
  conv => whnf
  refine .inr (loop_inv (gOk W0) (ScmI a0 a1 a2 a3 b0 b1 b2 b3) ?_ ?_)
  · intro k e' m' hI
    obtain ⟨i, w0, w1, w2, w3, w4, w5, w6, w7, t0, t1, t2, t3, hi4, rfl, hw, hE, rfl, rfl⟩ := hI
    obtain rfl | rfl | rfl | rfl | rfl : i = 0 ∨ i = 1 ∨ i = 2 ∨ i = 3 ∨ i = 4 := by omega
    · exact scmRow0 ⟨ha0, ha1, ha2, ha3⟩ ⟨hb0, hb1, hb2, hb3⟩ hw hE W0 _
    · exact scmRow1 ⟨ha0, ha1, ha2, ha3⟩ ⟨hb0, hb1, hb2, hb3⟩ hw hE W0 _
    · exact scmRow2 ⟨ha0, ha1, ha2, ha3⟩ ⟨hb0, hb1, hb2, hb3⟩ hw hE W0 _
    · exact scmRow3 ⟨ha0, ha1, ha2, ha3⟩ ⟨hb0, hb1, hb2, hb3⟩ hw hE W0 _
    · conv => whnf
      have hf := scFolded_fn hw
      rw [hE] at hf
      refine ⟨_, hf.2 _ _, rfl, ?_⟩
      conv => whnf
      rfl
  · refine ⟨4, _, _, wk_of (by (repeat' apply And.intro) <;> first | trivial | rfl) (by (repeat' apply And.intro) <;> first | trivial | rfl) (Nat.le_refl _) (Nat.le_refl _), ⟨0, 0, 0, 0, 0, 0, 0, 0, 0, _, _, _, _, by decide, by decide, ⟨z0, z0, z0, z0, z0, z0, z0, z0⟩, ?_, rfl, rfl⟩⟩
    rw [(ap_succ a0 a1 a2 a3 _).1]
    rfl

theorem scAdd_fn {x y : Int} (hx : InW x) (hy : InW y) : Fn PG f_scalar_Add [W x, W y] (W ((x + y) % nn)) := by
  obtain ⟨a0, a1, a2, a3, h0, h1, h2, h3, rfl⟩ := split4 hx
  obtain ⟨b0, b1, b2, b3, g0, g1, g2, g3, rfl⟩ := split4 hy
  simp only [W, words_val h0 h1 h2 h3, words_val g0 g1 g2 g3]
  have z0 : InU 0 := ⟨by omega, by omega⟩
  refine fn_go h_scalar_Add rfl (by kernel_rfl) (fun _ => by kernel_rfl) rfl rfl fun W0 => ?_
  conv => whnf
  refine .inl ⟨5, ?_⟩
  conv => whnf
  refine ⟨by omega, ?_⟩
  intro s0 c0 e0 l0 u0 p0
  conv => whnf
  refine ⟨by omega, ?_⟩
  intro s1 c1 e1 l1 u1 p1
  conv => whnf
  refine ⟨by omega, ?_⟩
  intro s2 c2 e2 l2 u2 p2
  conv => whnf
  refine ⟨by omega, ?_⟩
  intro s3 c3 e3 l3 u3 p3
  conv => whnf
  have hs : val a0 a1 a2 a3 + val b0 b1 b2 b3 = val8 s0 s1 s2 s3 c3 0 0 0 := by unfold val8 val; omega
  have hf := scFolded_fn (w0 := s0) (w1 := s1) (w2 := s2) (w3 := s3) (w4 := c3) (w5 := 0) (w6 := 0) (w7 := 0) ⟨⟨l0, u0⟩, ⟨l1, u1⟩, ⟨l2, u2⟩, ⟨l3, u3⟩, ⟨by omega, by omega⟩, z0, z0, z0⟩
  refine ⟨_, hf.2 _ _, rfl, ?_⟩
  conv => whnf
  rw [hs]
  rfl

theorem inN (z : Int) : InW (z % nn) := by unfold nn; exact ⟨by omega, by omega⟩

theorem scNeg_fn {x : Int} (hx : InW x) : Fn PG f_scalar_Neg [W x] (W (-x % nn)) := by
  refine fn_go h_scalar_Neg rfl (by kernel_rfl) (fun _ => by kernel_rfl) rfl rfl fun W0 => ?_
  have hi := inN x
  have hmin := scMinus_fn (x := nn) (y := x % nn) (by decide) hi
  have e : (nn - x % nn) % 115792089237316195423570985008687907853269984665640564039457584007913129639936 = nn - x % nn := by unfold nn; omega
  rw [e] at hmin
  have hN2 := scNorm_fn (x := nn - x % nn) (by unfold nn; exact ⟨by omega, by omega⟩)
  have e2 : (nn - x % nn) % nn = -x % nn := by
    have : nn - x % nn = -x + nn * (x / nn + 1) := by
      rw [Int.mul_add, Int.mul_one, Int.emod_def]
      omega
    rw [this, Int.add_mul_emod_self_left]
  rw [e2] at hN2
  conv => whnf
  refine ⟨_, scOrder_fn.2 _ _, rfl, ?_⟩
  conv => whnf
  refine ⟨_, (scNorm_fn hx).2 _ _, rfl, ?_⟩
  conv => whnf
  refine ⟨_, hmin.2 _ _, rfl, ?_⟩
  conv => whnf
  refine ⟨_, hN2.2 _ _, rfl, ?_⟩
  conv => whnf
  rfl

theorem scSub_fn {x y : Int} (hx : InW x) (hy : InW y) : Fn PG f_scalar_Sub [W x, W y] (W ((x - y) % nn)) := by
  refine fn_go h_scalar_Sub rfl (by kernel_rfl) (fun _ => by kernel_rfl) rfl rfl fun W0 => ?_
  have ha := scAdd_fn hx (inN (-y))
  rw [Int.add_emod_emod, ← Int.sub_eq_add_neg] at ha
  conv => whnf
  refine ⟨_, (scNeg_fn hy).2 _ _, rfl, ?_⟩
  conv => whnf
  refine ⟨_, ha.2 _ _, rfl, ?_⟩
  conv => whnf
  rfl

end Go.Ev

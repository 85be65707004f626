import Derived.Test.YtmappjgknpldpaaSc2
namespace Go.Ev

theorem gaR_ex {T : Int} (h0 : 0 ≤ T) (h1 : T < 13407807929942597099574024998205846127479365820592393377723561443721764030073546976801874298166903427690031858186486050853753882811946569946433649006084096) (t : Nat) : ∃ k, GaR T t k := by
  obtain ⟨a0, a1, a2, a3, i0, i1, i2, i3, e0⟩ := split4 (x := T % 115792089237316195423570985008687907853269984665640564039457584007913129639936) ⟨by omega, by omega⟩
  obtain ⟨b0, b1, b2, b3, j0, j1, j2, j3, e1⟩ := split4 (x := T / 115792089237316195423570985008687907853269984665640564039457584007913129639936) ⟨by omega, by omega⟩
  exact ⟨_, a0, a1, a2, a3, b0, b1, b2, b3, ⟨i0, i1, i2, i3, j0, j1, j2, j3⟩, by unfold val8; rw [← e0, ← e1]; omega, rfl⟩

theorem val8_nonneg {w0 w1 w2 w3 w4 w5 w6 w7 : Int} (h : In8 w0 w1 w2 w3 w4 w5 w6 w7) : 0 ≤ val8 w0 w1 w2 w3 w4 w5 w6 w7 := by
  obtain ⟨h0, h1, h2, h3, h4, h5, h6, h7⟩ := h
  unfold val8 val
  omega

def senv : Env := [(2, .one (.ptr (some (.loc 1 0)))), (1, .one (.ptr (some (.loc 0 0))))]
def smem (w0 w1 w2 w3 w4 w5 w6 w7 : Int) (t0 t1 : Nat) (m : Mem) : Mem := some ⟨[u w0, u w1, u w2, u w3, u w4, u w5, u w6, u w7], t0, 0, false⟩ :: some ⟨[u 0, u 0, u 0, u 0], t1, 0, false⟩ :: m

def FolS (V : Int) (k : Nat) (e : Env) (m : Mem) : Prop :=
  ∃ (w0 w1 w2 w3 w4 w5 w6 w7 : Int) (t0 t1 : Nat), In8 w0 w1 w2 w3 w4 w5 w6 w7 ∧ 1 ≤ k ∧ k ≤ 5 ∧ val8 w0 w1 w2 w3 w4 w5 w6 w7 % mdN.M = V % mdN.M ∧ val8 w0 w1 w2 w3 w4 w5 w6 w7 < foldB k ∧ e = senv ∧ m = smem w0 w1 w2 w3 w4 w5 w6 w7 t0 t1 []

def MidS (w0 w1 w2 w3 w4 w5 w6 w7 : Int) (k : Nat) (e : Env) (m : Mem) : Prop :=
  ∃ (i : Nat) (r0 r1 r2 r3 r4 r5 r6 r7 : Int) (t0 t1 t2 : Nat), i ≤ 4 ∧ k = 4 - i ∧ In8 r0 r1 r2 r3 r4 r5 r6 r7 ∧ val8 r0 r1 r2 r3 r4 r5 r6 r7 = val w0 w1 w2 w3 + hp w4 w5 w6 w7 i * mdN.L ∧
    e = (28, .one (.int .i64 i)) :: (3, .one (.ptr (some (.loc 2 0)))) :: senv ∧ m = smem w0 w1 w2 w3 w4 w5 w6 w7 t0 t1 [some ⟨[u r0, u r1, u r2, u r3, u r4, u r5, u r6, u r7], t2, 0, false⟩]

set_option maxHeartbeats 1000000 in
theorem midS0 {w0 w1 w2 w3 w4 w5 w6 w7 r0 r1 r2 r3 r4 r5 r6 r7 : Int} {t0 t1 t2 : Nat} (hw : In8 w0 w1 w2 w3 w4 w5 w6 w7) (hr : In8 r0 r1 r2 r3 r4 r5 r6 r7) (hE0 : val8 r0 r1 r2 r3 r4 r5 r6 r7 = val w0 w1 w2 w3 + hp w4 w5 w6 w7 0 * mdN.L) (W0 : World) (Q : Exit → Env → Mem → Prop) :
    swp (GG W0) (lp F_scalar_folded 1) (fun x e1 m1 => match x with
      | .normal => ∃ j e2 m2, j < 4 - 0 ∧ Wk (smem w0 w1 w2 w3 w4 w5 w6 w7 t0 t1 [some ⟨[u r0, u r1, u r2, u r3, u r4, u r5, u r6, u r7], t2, 0, false⟩]).length e1 m1 e2 m2 ∧ MidS w0 w1 w2 w3 w4 w5 w6 w7 j e2 m2
      | x => Q x e1 m1) ((28, .one (.int .i64 (0 : Nat))) :: (3, .one (.ptr (some (.loc 2 0)))) :: senv) (smem w0 w1 w2 w3 w4 w5 w6 w7 t0 t1 [some ⟨[u r0, u r1, u r2, u r3, u r4, u r5, u r6, u r7], t2, 0, false⟩]) := by
  have hS := hp_succ mdN w4 w5 w6 w7
  obtain ⟨T, hT⟩ : ∃ T, T = val w0 w1 w2 w3 + hp w4 w5 w6 w7 1 * mdN.L := ⟨_, rfl⟩
  have hTb := hp_bound mdN_ok hw (by decide) hT
  obtain ⟨hw0, hw1, hw2, hw3, hw4, hw5, hw6, hw7⟩ := hw
  have hl0 := mdN_ok.l0; have hl1 := mdN_ok.l1; have hl2 := mdN_ok.l2'
  have p0 := prod_le hw4 hl0
  have p1 := prod_le hw4 hl1
  have p2 := prod_le hw4 hl2
  have hv := val8_nonneg hr
  have hsum : T = val8 r0 r1 r2 r3 r4 r5 r6 r7 + q64 0 * (w4 * mdN.l0) + q64 1 * (w4 * mdN.l1) + q64 2 * (w4 * mdN.l2) := by
    rw [hT, hS.2.1, hE0, mul_L mdN w4]
    simp only [q64]
    omega
  have hb2 := hTb
  rw [hsum] at hb2
  have hb1 : val8 r0 r1 r2 r3 r4 r5 r6 r7 + q64 0 * (w4 * mdN.l0) + q64 1 * (w4 * mdN.l1) < 13407807929942597099574024998205846127479365820592393377723561443721764030073546976801874298166903427690031858186486050853753882811946569946433649006084096 := by simp only [q64] at hb2 ⊢; omega
  have hb0 : val8 r0 r1 r2 r3 r4 r5 r6 r7 + q64 0 * (w4 * mdN.l0) < 13407807929942597099574024998205846127479365820592393377723561443721764030073546976801874298166903427690031858186486050853753882811946569946433649006084096 := by simp only [q64] at hb2 ⊢; omega
  have n0 : 0 ≤ val8 r0 r1 r2 r3 r4 r5 r6 r7 + q64 0 * (w4 * mdN.l0) := by simp only [q64]; omega
  have n1 : 0 ≤ val8 r0 r1 r2 r3 r4 r5 r6 r7 + q64 0 * (w4 * mdN.l0) + q64 1 * (w4 * mdN.l1) := by simp only [q64]; omega
  have n2 : 0 ≤ val8 r0 r1 r2 r3 r4 r5 r6 r7 + q64 0 * (w4 * mdN.l0) + q64 1 * (w4 * mdN.l1) + q64 2 * (w4 * mdN.l2) := by simp only [q64]; omega
  clear hS hE0 hTb p0 p1 p2 hv
  conv => whnf
  refine ⟨_, scLess_fn.2 _ _, rfl, ?_⟩
  conv => whnf
  refine .inl ⟨4, ?_⟩
  conv => whnf
  refine ⟨_, CALL.frame (b := 2) (blk := ⟨[u r0, u r1, u r2, u r3, u r4, u r5, u r6, u r7], t2, 0, false⟩) rfl rfl (fun c => rfl) rfl (gather0 hr hw4 hl0 t2 hb0 W0), ⟨_, _, rfl, _, rfl, (gaR_ex n0 hb0 t2).choose_spec⟩, ?_⟩
  rintro v m' ⟨rfl, kk, rfl, a0, a1, a2, a3, a4, a5, a6, a7, ha, ea, rfl⟩
  rw [← ea] at hb1 hb2 n1 n2 hsum
  conv => whnf
  refine ⟨_, CALL.frame (b := 2) (blk := ⟨[u a0, u a1, u a2, u a3, u a4, u a5, u a6, u a7], t2, 0, false⟩) rfl rfl (fun c => rfl) rfl (gather1 ha hw4 hl1 t2 hb1 W0), ⟨_, _, rfl, _, rfl, (gaR_ex n1 hb1 t2).choose_spec⟩, ?_⟩
  rintro v m' ⟨rfl, kk, rfl, b0, b1, b2, b3, b4, b5, b6, b7, hb, eb, rfl⟩
  rw [← eb] at hb2 n2 hsum
  conv => whnf
  refine ⟨_, CALL.frame (b := 2) (blk := ⟨[u b0, u b1, u b2, u b3, u b4, u b5, u b6, u b7], t2, 0, false⟩) rfl rfl (fun c => rfl) rfl (gather2 hb hw4 hl2 t2 hb2 W0), ⟨_, _, rfl, _, rfl, (gaR_ex n2 hb2 t2).choose_spec⟩, ?_⟩
  rintro v m' ⟨rfl, kk, rfl, c0, c1, c2, c3, c4, c5, c6, c7, hc, ec, rfl⟩
  rw [← ec] at hsum
  conv => whnf
  refine ⟨3, _, _, by decide, wk_of (by (repeat' apply And.intro) <;> first | trivial | rfl) (by (repeat' apply And.intro) <;> first | trivial | rfl) (Nat.le_refl _) (Nat.le_refl _), ⟨1, c0, c1, c2, c3, c4, c5, c6, c7, t0, t1, t2, by decide, by decide, hc, by rw [← hT]; exact hsum.symm, rfl, rfl⟩⟩

set_option maxHeartbeats 1000000 in
theorem midS1 {w0 w1 w2 w3 w4 w5 w6 w7 r0 r1 r2 r3 r4 r5 r6 r7 : Int} {t0 t1 t2 : Nat} (hw : In8 w0 w1 w2 w3 w4 w5 w6 w7) (hr : In8 r0 r1 r2 r3 r4 r5 r6 r7) (hE0 : val8 r0 r1 r2 r3 r4 r5 r6 r7 = val w0 w1 w2 w3 + hp w4 w5 w6 w7 1 * mdN.L) (W0 : World) (Q : Exit → Env → Mem → Prop) :
    swp (GG W0) (lp F_scalar_folded 1) (fun x e1 m1 => match x with
      | .normal => ∃ j e2 m2, j < 4 - 1 ∧ Wk (smem w0 w1 w2 w3 w4 w5 w6 w7 t0 t1 [some ⟨[u r0, u r1, u r2, u r3, u r4, u r5, u r6, u r7], t2, 0, false⟩]).length e1 m1 e2 m2 ∧ MidS w0 w1 w2 w3 w4 w5 w6 w7 j e2 m2
      | x => Q x e1 m1) ((28, .one (.int .i64 (1 : Nat))) :: (3, .one (.ptr (some (.loc 2 0)))) :: senv) (smem w0 w1 w2 w3 w4 w5 w6 w7 t0 t1 [some ⟨[u r0, u r1, u r2, u r3, u r4, u r5, u r6, u r7], t2, 0, false⟩]) := by
  have hS := hp_succ mdN w4 w5 w6 w7
  obtain ⟨T, hT⟩ : ∃ T, T = val w0 w1 w2 w3 + hp w4 w5 w6 w7 2 * mdN.L := ⟨_, rfl⟩
  have hTb := hp_bound mdN_ok hw (by decide) hT
  obtain ⟨hw0, hw1, hw2, hw3, hw4, hw5, hw6, hw7⟩ := hw
  have hl0 := mdN_ok.l0; have hl1 := mdN_ok.l1; have hl2 := mdN_ok.l2'
  have p0 := prod_le hw5 hl0
  have p1 := prod_le hw5 hl1
  have p2 := prod_le hw5 hl2
  have hv := val8_nonneg hr
  have hsum : T = val8 r0 r1 r2 r3 r4 r5 r6 r7 + q64 1 * (w5 * mdN.l0) + q64 2 * (w5 * mdN.l1) + q64 3 * (w5 * mdN.l2) := by
    rw [hT, hS.2.2.1, hE0, mul_L mdN w5]
    simp only [q64]
    omega
  have hb2 := hTb
  rw [hsum] at hb2
  have hb1 : val8 r0 r1 r2 r3 r4 r5 r6 r7 + q64 1 * (w5 * mdN.l0) + q64 2 * (w5 * mdN.l1) < 13407807929942597099574024998205846127479365820592393377723561443721764030073546976801874298166903427690031858186486050853753882811946569946433649006084096 := by simp only [q64] at hb2 ⊢; omega
  have hb0 : val8 r0 r1 r2 r3 r4 r5 r6 r7 + q64 1 * (w5 * mdN.l0) < 13407807929942597099574024998205846127479365820592393377723561443721764030073546976801874298166903427690031858186486050853753882811946569946433649006084096 := by simp only [q64] at hb2 ⊢; omega
  have n0 : 0 ≤ val8 r0 r1 r2 r3 r4 r5 r6 r7 + q64 1 * (w5 * mdN.l0) := by simp only [q64]; omega
  have n1 : 0 ≤ val8 r0 r1 r2 r3 r4 r5 r6 r7 + q64 1 * (w5 * mdN.l0) + q64 2 * (w5 * mdN.l1) := by simp only [q64]; omega
  have n2 : 0 ≤ val8 r0 r1 r2 r3 r4 r5 r6 r7 + q64 1 * (w5 * mdN.l0) + q64 2 * (w5 * mdN.l1) + q64 3 * (w5 * mdN.l2) := by simp only [q64]; omega
  clear hS hE0 hTb p0 p1 p2 hv
  conv => whnf
  refine ⟨_, scLess_fn.2 _ _, rfl, ?_⟩
  conv => whnf
  refine .inl ⟨4, ?_⟩
  conv => whnf
  refine ⟨_, CALL.frame (b := 2) (blk := ⟨[u r0, u r1, u r2, u r3, u r4, u r5, u r6, u r7], t2, 0, false⟩) rfl rfl (fun c => rfl) rfl (gather1 hr hw5 hl0 t2 hb0 W0), ⟨_, _, rfl, _, rfl, (gaR_ex n0 hb0 t2).choose_spec⟩, ?_⟩
  rintro v m' ⟨rfl, kk, rfl, a0, a1, a2, a3, a4, a5, a6, a7, ha, ea, rfl⟩
  rw [← ea] at hb1 hb2 n1 n2 hsum
  conv => whnf
  refine ⟨_, CALL.frame (b := 2) (blk := ⟨[u a0, u a1, u a2, u a3, u a4, u a5, u a6, u a7], t2, 0, false⟩) rfl rfl (fun c => rfl) rfl (gather2 ha hw5 hl1 t2 hb1 W0), ⟨_, _, rfl, _, rfl, (gaR_ex n1 hb1 t2).choose_spec⟩, ?_⟩
  rintro v m' ⟨rfl, kk, rfl, b0, b1, b2, b3, b4, b5, b6, b7, hb, eb, rfl⟩
  rw [← eb] at hb2 n2 hsum
  conv => whnf
  refine ⟨_, CALL.frame (b := 2) (blk := ⟨[u b0, u b1, u b2, u b3, u b4, u b5, u b6, u b7], t2, 0, false⟩) rfl rfl (fun c => rfl) rfl (gather3 hb hw5 hl2 t2 hb2 W0), ⟨_, _, rfl, _, rfl, (gaR_ex n2 hb2 t2).choose_spec⟩, ?_⟩
  rintro v m' ⟨rfl, kk, rfl, c0, c1, c2, c3, c4, c5, c6, c7, hc, ec, rfl⟩
  rw [← ec] at hsum
  conv => whnf
  refine ⟨2, _, _, by decide, wk_of (by (repeat' apply And.intro) <;> first | trivial | rfl) (by (repeat' apply And.intro) <;> first | trivial | rfl) (Nat.le_refl _) (Nat.le_refl _), ⟨2, c0, c1, c2, c3, c4, c5, c6, c7, t0, t1, t2, by decide, by decide, hc, by rw [← hT]; exact hsum.symm, rfl, rfl⟩⟩

set_option maxHeartbeats 1000000 in
theorem midS2 {w0 w1 w2 w3 w4 w5 w6 w7 r0 r1 r2 r3 r4 r5 r6 r7 : Int} {t0 t1 t2 : Nat} (hw : In8 w0 w1 w2 w3 w4 w5 w6 w7) (hr : In8 r0 r1 r2 r3 r4 r5 r6 r7) (hE0 : val8 r0 r1 r2 r3 r4 r5 r6 r7 = val w0 w1 w2 w3 + hp w4 w5 w6 w7 2 * mdN.L) (W0 : World) (Q : Exit → Env → Mem → Prop) :
    swp (GG W0) (lp F_scalar_folded 1) (fun x e1 m1 => match x with
      | .normal => ∃ j e2 m2, j < 4 - 2 ∧ Wk (smem w0 w1 w2 w3 w4 w5 w6 w7 t0 t1 [some ⟨[u r0, u r1, u r2, u r3, u r4, u r5, u r6, u r7], t2, 0, false⟩]).length e1 m1 e2 m2 ∧ MidS w0 w1 w2 w3 w4 w5 w6 w7 j e2 m2
      | x => Q x e1 m1) ((28, .one (.int .i64 (2 : Nat))) :: (3, .one (.ptr (some (.loc 2 0)))) :: senv) (smem w0 w1 w2 w3 w4 w5 w6 w7 t0 t1 [some ⟨[u r0, u r1, u r2, u r3, u r4, u r5, u r6, u r7], t2, 0, false⟩]) := by
  have hS := hp_succ mdN w4 w5 w6 w7
  obtain ⟨T, hT⟩ : ∃ T, T = val w0 w1 w2 w3 + hp w4 w5 w6 w7 3 * mdN.L := ⟨_, rfl⟩
  have hTb := hp_bound mdN_ok hw (by decide) hT
  obtain ⟨hw0, hw1, hw2, hw3, hw4, hw5, hw6, hw7⟩ := hw
  have hl0 := mdN_ok.l0; have hl1 := mdN_ok.l1; have hl2 := mdN_ok.l2'
  have p0 := prod_le hw6 hl0
  have p1 := prod_le hw6 hl1
  have p2 := prod_le hw6 hl2
  have hv := val8_nonneg hr
  have hsum : T = val8 r0 r1 r2 r3 r4 r5 r6 r7 + q64 2 * (w6 * mdN.l0) + q64 3 * (w6 * mdN.l1) + q64 4 * (w6 * mdN.l2) := by
    rw [hT, hS.2.2.2.1, hE0, mul_L mdN w6]
    simp only [q64]
    omega
  have hb2 := hTb
  rw [hsum] at hb2
  have hb1 : val8 r0 r1 r2 r3 r4 r5 r6 r7 + q64 2 * (w6 * mdN.l0) + q64 3 * (w6 * mdN.l1) < 13407807929942597099574024998205846127479365820592393377723561443721764030073546976801874298166903427690031858186486050853753882811946569946433649006084096 := by simp only [q64] at hb2 ⊢; omega
  have hb0 : val8 r0 r1 r2 r3 r4 r5 r6 r7 + q64 2 * (w6 * mdN.l0) < 13407807929942597099574024998205846127479365820592393377723561443721764030073546976801874298166903427690031858186486050853753882811946569946433649006084096 := by simp only [q64] at hb2 ⊢; omega
  have n0 : 0 ≤ val8 r0 r1 r2 r3 r4 r5 r6 r7 + q64 2 * (w6 * mdN.l0) := by simp only [q64]; omega
  have n1 : 0 ≤ val8 r0 r1 r2 r3 r4 r5 r6 r7 + q64 2 * (w6 * mdN.l0) + q64 3 * (w6 * mdN.l1) := by simp only [q64]; omega
  have n2 : 0 ≤ val8 r0 r1 r2 r3 r4 r5 r6 r7 + q64 2 * (w6 * mdN.l0) + q64 3 * (w6 * mdN.l1) + q64 4 * (w6 * mdN.l2) := by simp only [q64]; omega
  clear hS hE0 hTb p0 p1 p2 hv
  conv => whnf
  refine ⟨_, scLess_fn.2 _ _, rfl, ?_⟩
  conv => whnf
  refine .inl ⟨4, ?_⟩
  conv => whnf
  refine ⟨_, CALL.frame (b := 2) (blk := ⟨[u r0, u r1, u r2, u r3, u r4, u r5, u r6, u r7], t2, 0, false⟩) rfl rfl (fun c => rfl) rfl (gather2 hr hw6 hl0 t2 hb0 W0), ⟨_, _, rfl, _, rfl, (gaR_ex n0 hb0 t2).choose_spec⟩, ?_⟩
  rintro v m' ⟨rfl, kk, rfl, a0, a1, a2, a3, a4, a5, a6, a7, ha, ea, rfl⟩
  rw [← ea] at hb1 hb2 n1 n2 hsum
  conv => whnf
  refine ⟨_, CALL.frame (b := 2) (blk := ⟨[u a0, u a1, u a2, u a3, u a4, u a5, u a6, u a7], t2, 0, false⟩) rfl rfl (fun c => rfl) rfl (gather3 ha hw6 hl1 t2 hb1 W0), ⟨_, _, rfl, _, rfl, (gaR_ex n1 hb1 t2).choose_spec⟩, ?_⟩
  rintro v m' ⟨rfl, kk, rfl, b0, b1, b2, b3, b4, b5, b6, b7, hb, eb, rfl⟩
  rw [← eb] at hb2 n2 hsum
  conv => whnf
  refine ⟨_, CALL.frame (b := 2) (blk := ⟨[u b0, u b1, u b2, u b3, u b4, u b5, u b6, u b7], t2, 0, false⟩) rfl rfl (fun c => rfl) rfl (gather4 hb hw6 hl2 t2 hb2 W0), ⟨_, _, rfl, _, rfl, (gaR_ex n2 hb2 t2).choose_spec⟩, ?_⟩
  rintro v m' ⟨rfl, kk, rfl, c0, c1, c2, c3, c4, c5, c6, c7, hc, ec, rfl⟩
  rw [← ec] at hsum
  conv => whnf
  refine ⟨1, _, _, by decide, wk_of (by (repeat' apply And.intro) <;> first | trivial | rfl) (by (repeat' apply And.intro) <;> first | trivial | rfl) (Nat.le_refl _) (Nat.le_refl _), ⟨3, c0, c1, c2, c3, c4, c5, c6, c7, t0, t1, t2, by decide, by decide, hc, by rw [← hT]; exact hsum.symm, rfl, rfl⟩⟩

set_option maxHeartbeats 1000000 in
theorem midS3 {w0 w1 w2 w3 w4 w5 w6 w7 r0 r1 r2 r3 r4 r5 r6 r7 : Int} {t0 t1 t2 : Nat} (hw : In8 w0 w1 w2 w3 w4 w5 w6 w7) (hr : In8 r0 r1 r2 r3 r4 r5 r6 r7) (hE0 : val8 r0 r1 r2 r3 r4 r5 r6 r7 = val w0 w1 w2 w3 + hp w4 w5 w6 w7 3 * mdN.L) (W0 : World) (Q : Exit → Env → Mem → Prop) :
    swp (GG W0) (lp F_scalar_folded 1) (fun x e1 m1 => match x with
      | .normal => ∃ j e2 m2, j < 4 - 3 ∧ Wk (smem w0 w1 w2 w3 w4 w5 w6 w7 t0 t1 [some ⟨[u r0, u r1, u r2, u r3, u r4, u r5, u r6, u r7], t2, 0, false⟩]).length e1 m1 e2 m2 ∧ MidS w0 w1 w2 w3 w4 w5 w6 w7 j e2 m2
      | x => Q x e1 m1) ((28, .one (.int .i64 (3 : Nat))) :: (3, .one (.ptr (some (.loc 2 0)))) :: senv) (smem w0 w1 w2 w3 w4 w5 w6 w7 t0 t1 [some ⟨[u r0, u r1, u r2, u r3, u r4, u r5, u r6, u r7], t2, 0, false⟩]) := by
  have hS := hp_succ mdN w4 w5 w6 w7
  obtain ⟨T, hT⟩ : ∃ T, T = val w0 w1 w2 w3 + hp w4 w5 w6 w7 4 * mdN.L := ⟨_, rfl⟩
  have hTb := hp_bound mdN_ok hw (by decide) hT
  obtain ⟨hw0, hw1, hw2, hw3, hw4, hw5, hw6, hw7⟩ := hw
  have hl0 := mdN_ok.l0; have hl1 := mdN_ok.l1; have hl2 := mdN_ok.l2'
  have p0 := prod_le hw7 hl0
  have p1 := prod_le hw7 hl1
  have p2 := prod_le hw7 hl2
  have hv := val8_nonneg hr
  have hsum : T = val8 r0 r1 r2 r3 r4 r5 r6 r7 + q64 3 * (w7 * mdN.l0) + q64 4 * (w7 * mdN.l1) + q64 5 * (w7 * mdN.l2) := by
    rw [hT, hS.2.2.2.2, hE0, mul_L mdN w7]
    simp only [q64]
    omega
  have hb2 := hTb
  rw [hsum] at hb2
  have hb1 : val8 r0 r1 r2 r3 r4 r5 r6 r7 + q64 3 * (w7 * mdN.l0) + q64 4 * (w7 * mdN.l1) < 13407807929942597099574024998205846127479365820592393377723561443721764030073546976801874298166903427690031858186486050853753882811946569946433649006084096 := by simp only [q64] at hb2 ⊢; omega
  have hb0 : val8 r0 r1 r2 r3 r4 r5 r6 r7 + q64 3 * (w7 * mdN.l0) < 13407807929942597099574024998205846127479365820592393377723561443721764030073546976801874298166903427690031858186486050853753882811946569946433649006084096 := by simp only [q64] at hb2 ⊢; omega
  have n0 : 0 ≤ val8 r0 r1 r2 r3 r4 r5 r6 r7 + q64 3 * (w7 * mdN.l0) := by simp only [q64]; omega
  have n1 : 0 ≤ val8 r0 r1 r2 r3 r4 r5 r6 r7 + q64 3 * (w7 * mdN.l0) + q64 4 * (w7 * mdN.l1) := by simp only [q64]; omega
  have n2 : 0 ≤ val8 r0 r1 r2 r3 r4 r5 r6 r7 + q64 3 * (w7 * mdN.l0) + q64 4 * (w7 * mdN.l1) + q64 5 * (w7 * mdN.l2) := by simp only [q64]; omega
  clear hS hE0 hTb p0 p1 p2 hv
  conv => whnf
  refine ⟨_, scLess_fn.2 _ _, rfl, ?_⟩
  conv => whnf
  refine .inl ⟨4, ?_⟩
  conv => whnf
  refine ⟨_, CALL.frame (b := 2) (blk := ⟨[u r0, u r1, u r2, u r3, u r4, u r5, u r6, u r7], t2, 0, false⟩) rfl rfl (fun c => rfl) rfl (gather3 hr hw7 hl0 t2 hb0 W0), ⟨_, _, rfl, _, rfl, (gaR_ex n0 hb0 t2).choose_spec⟩, ?_⟩
  rintro v m' ⟨rfl, kk, rfl, a0, a1, a2, a3, a4, a5, a6, a7, ha, ea, rfl⟩
  rw [← ea] at hb1 hb2 n1 n2 hsum
  conv => whnf
  refine ⟨_, CALL.frame (b := 2) (blk := ⟨[u a0, u a1, u a2, u a3, u a4, u a5, u a6, u a7], t2, 0, false⟩) rfl rfl (fun c => rfl) rfl (gather4 ha hw7 hl1 t2 hb1 W0), ⟨_, _, rfl, _, rfl, (gaR_ex n1 hb1 t2).choose_spec⟩, ?_⟩
  rintro v m' ⟨rfl, kk, rfl, b0, b1, b2, b3, b4, b5, b6, b7, hb, eb, rfl⟩
  rw [← eb] at hb2 n2 hsum
  conv => whnf
  refine ⟨_, CALL.frame (b := 2) (blk := ⟨[u b0, u b1, u b2, u b3, u b4, u b5, u b6, u b7], t2, 0, false⟩) rfl rfl (fun c => rfl) rfl (gather5 hb hw7 hl2 t2 hb2 W0), ⟨_, _, rfl, _, rfl, (gaR_ex n2 hb2 t2).choose_spec⟩, ?_⟩
  rintro v m' ⟨rfl, kk, rfl, c0, c1, c2, c3, c4, c5, c6, c7, hc, ec, rfl⟩
  rw [← ec] at hsum
  conv => whnf
  refine ⟨0, _, _, by decide, wk_of (by (repeat' apply And.intro) <;> first | trivial | rfl) (by (repeat' apply And.intro) <;> first | trivial | rfl) (Nat.le_refl _) (Nat.le_refl _), ⟨4, c0, c1, c2, c3, c4, c5, c6, c7, t0, t1, t2, by decide, by decide, hc, by rw [← hT]; exact hsum.symm, rfl, rfl⟩⟩

theorem ne4 {a b c d : Int} (ha : InU a) (hb : InU b) (hc : InU c) (hd : InU d) : (or2 (or2 (or2 a b) c) d != 0) = decide (0 < val a b c d) := by
  rw [← or4 ha hb hc hd]
  have h1 := or_u ha hb
  have h2 := or_u h1.2.1 hc
  have h3 := or_u h2.2.1 hd
  have i3 := h3.2.1
  generalize or2 (or2 (or2 a b) c) d = z at *
  by_cases h : z = 0
  · subst h; rfl
  · have h2 : z > 0 := by omega
    rw [decide_eq_true h2]
    simp [h]

set_option maxHeartbeats 1000000 in
theorem scFolded_fn {w0 w1 w2 w3 w4 w5 w6 w7 : Int} (hw : In8 w0 w1 w2 w3 w4 w5 w6 w7) : Fn PG f_scalar_folded [.agg [u w0, u w1, u w2, u w3, u w4, u w5, u w6, u w7]] (W (val8 w0 w1 w2 w3 w4 w5 w6 w7 % nn)) := by
  obtain ⟨V, hV⟩ : ∃ V, V = val8 w0 w1 w2 w3 w4 w5 w6 w7 := ⟨_, rfl⟩
  rw [← hV]
  have z0 : InU 0 := ⟨by omega, by omega⟩
  refine fn_go h_scalar_folded rfl (by kernel_rfl) (fun _ => by kernel_rfl) rfl rfl fun W0 => ?_
  conv => whnf
  refine .inr (loop_inv (gOk W0) (FolS V) ?_ ?_)
  · clear hw hV
    intro k e' m' hI
    obtain ⟨w0, w1, w2, w3, w4, w5, w6, w7, t0, t1, hw, hk1, hk5, hmod, hbnd, rfl, rfl⟩ := hI
    obtain ⟨hw0, hw1, hw2, hw3, hw4, hw5, hw6, hw7⟩ := hw
    conv => whnf
    rw [(or_u hw4 hw5).1, (or_u (or_u hw4 hw5).2.1 hw6).1, (or_u (or_u (or_u hw4 hw5).2.1 hw6).2.1 hw7).1, ne4 hw4 hw5 hw6 hw7]
    split
    · rename_i hh
      have hh := of_decide_eq_true hh
      conv => whnf
      refine .inr (loop_inv (gOk W0) (MidS w0 w1 w2 w3 w4 w5 w6 w7) ?_ ?_)
      · intro k2 e' m' hI
        obtain ⟨i, r0, r1, r2, r3, r4, r5, r6, r7, t0, t1, t2, hi4, rfl, hr, hE0, rfl, rfl⟩ := hI
        obtain rfl | rfl | rfl | rfl | rfl : i = 0 ∨ i = 1 ∨ i = 2 ∨ i = 3 ∨ i = 4 := by omega
        · exact midS0 ⟨hw0, hw1, hw2, hw3, hw4, hw5, hw6, hw7⟩ hr hE0 W0 _
        · exact midS1 ⟨hw0, hw1, hw2, hw3, hw4, hw5, hw6, hw7⟩ hr hE0 W0 _
        · exact midS2 ⟨hw0, hw1, hw2, hw3, hw4, hw5, hw6, hw7⟩ hr hE0 W0 _
        · exact midS3 ⟨hw0, hw1, hw2, hw3, hw4, hw5, hw6, hw7⟩ hr hE0 W0 _
        · conv => whnf
          have hn := fold_next mdN_ok ⟨hw0, hw1, hw2, hw3, hw4, hw5, hw6, hw7⟩ hr hk1 hk5 hbnd hh hE0
          refine ⟨k - 1, _, _, by omega, wk_of (by (repeat' apply And.intro) <;> first | trivial | rfl) (by (repeat' apply And.intro) <;> first | trivial | rfl) (by exact Nat.le_succ 2) (by exact Nat.le_refl 2), ⟨_, _, _, _, _, _, _, _, t0, t1, hr, by omega, by omega, hn.2.2.trans hmod, hn.2.1, rfl, rfl⟩⟩
      · refine ⟨4, _, _, wk_of (by (repeat' apply And.intro) <;> first | trivial | rfl) (by (repeat' apply And.intro) <;> first | trivial | rfl) (Nat.le_refl _) (Nat.le_refl _), ⟨0, w0, w1, w2, w3, 0, 0, 0, 0, _, _, _, by decide, by decide, ⟨hw0, hw1, hw2, hw3, z0, z0, z0, z0⟩, ?_, rfl, rfl⟩⟩
        rw [(hp_succ mdN w4 w5 w6 w7).1]
        unfold val8
        show _ + _ * 0 = _
        omega
    · rename_i hh
      have hh := of_decide_eq_false hh
      conv => whnf
      have e0 : val8 w0 w1 w2 w3 w4 w5 w6 w7 = val w0 w1 w2 w3 := by unfold val8 val at *; omega
      have hN := scNorm_fn (x := val w0 w1 w2 w3) ⟨by unfold val; omega, by unfold val; omega⟩
      rw [← mdN_M, ← e0, hmod, e0] at hN
      unfold W at hN
      rw [words_val hw0 hw1 hw2 hw3] at hN
      refine ⟨_, hN.2 _ _, rfl, ?_⟩
      conv => whnf
      rw [mdN_M]
      rfl
  · refine ⟨5, _, _, wk_of (by (repeat' apply And.intro) <;> first | trivial | rfl) (by (repeat' apply And.intro) <;> first | trivial | rfl) (Nat.le_refl _) (Nat.le_refl _), ⟨w0, w1, w2, w3, w4, w5, w6, w7, _, _, hw, by decide, by decide, by rw [hV], ?_, rfl, rfl⟩⟩
    obtain ⟨hw0, hw1, hw2, hw3, hw4, hw5, hw6, hw7⟩ := hw
    simp only [foldB]
    unfold val8 val
    omega

end Go.Ev

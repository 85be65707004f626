import Derived.Test.YtmappjgknpldpaaSc1
namespace Go.Ev

def GaI (T : Int) (t : Nat) (k : Nat) (e : Env) (m : Mem) : Prop :=
  ∃ (i : Nat) (c : Int) (w0 w1 w2 w3 w4 w5 w6 w7 : Int), 2 ≤ i ∧ i ≤ 8 ∧ k = 8 - i ∧ In8 w0 w1 w2 w3 w4 w5 w6 w7 ∧ (c = 0 ∨ c = 1) ∧ val8 w0 w1 w2 w3 w4 w5 w6 w7 + q64 i * c = T ∧
    e = [(11, .one (.int .i64 i)), (10, .one (u c)), (0, .one (.ptr (some (.loc 0 0))))] ∧ m = [some ⟨[u w0, u w1, u w2, u w3, u w4, u w5, u w6, u w7], t, 0, false⟩]

/-- What gather leaves. -/
def GaR (T : Int) (t : Nat) (k : Blk) : Prop := ∃ w0 w1 w2 w3 w4 w5 w6 w7 : Int, In8 w0 w1 w2 w3 w4 w5 w6 w7 ∧ val8 w0 w1 w2 w3 w4 w5 w6 w7 = T ∧ k = ⟨[u w0, u w1, u w2, u w3, u w4, u w5, u w6, u w7], t, 0, false⟩

theorem ga_round {T : Int} {t : Nat} (hT : T < 13407807929942597099574024998205846127479365820592393377723561443721764030073546976801874298166903427690031858186486050853753882811946569946433649006084096) (W0 : World) (Q : Exit → Env → Mem → Prop) (hQ : ∀ (e : Env) (w0 w1 w2 w3 w4 w5 w6 w7 : Int), In8 w0 w1 w2 w3 w4 w5 w6 w7 → val8 w0 w1 w2 w3 w4 w5 w6 w7 = T → Q (.exit 0) e [some ⟨[u w0, u w1, u w2, u w3, u w4, u w5, u w6, u w7], t, 0, false⟩]) (k : Nat) (e' : Env) (m' : Mem) (hI : GaI T t k e' m') :
    swp (GG W0) (lp F_scalar_gather 0) (fun x e1 m1 => match x with
      | .normal => ∃ j e2 m2, j < k ∧ Wk 1 e1 m1 e2 m2 ∧ GaI T t j e2 m2
      | x => Q x e1 m1) e' m' := by
  obtain ⟨i, c, w0, w1, w2, w3, w4, w5, w6, w7, hi2, hi8, rfl, hs, hc, hv, rfl, rfl⟩ := hI
  obtain rfl | rfl | rfl | rfl | rfl | rfl | rfl : i = 2 ∨ i = 3 ∨ i = 4 ∨ i = 5 ∨ i = 6 ∨ i = 7 ∨ i = 8 := by omega
  · obtain rfl | rfl : c = 1 ∨ c = 0 := by omega
    · conv => whnf
      obtain ⟨hs0, hs1, hs2, hs3, hs4, hs5, hs6, hs7⟩ := hs
      refine ⟨⟨hs2.1, Int.le_refl _, Int.zero_le_ofNat 1, Int.le_refl _⟩, ?_⟩
      intro s t' e1 a1 a2 a3
      conv => whnf
      refine ⟨5, _, _, by decide, wk_of (by (repeat' apply And.intro) <;> first | trivial | rfl) (by (repeat' apply And.intro) <;> first | trivial | rfl) (Nat.le_refl _) (Nat.le_refl _), ⟨3, t', w0, w1, s, w3, w4, w5, w6, w7, by decide, by decide, rfl, ⟨hs0, hs1, ⟨a1, a2⟩, hs3, hs4, hs5, hs6, hs7⟩, by omega, ?_, rfl, rfl⟩⟩
      simp only [q64] at hv ⊢
      unfold val8 val at *
      omega
    · conv => whnf
      exact hQ _ _ _ _ _ _ _ _ _ hs (by rw [← hv, Int.mul_zero, Int.add_zero])
  · obtain rfl | rfl : c = 1 ∨ c = 0 := by omega
    · conv => whnf
      obtain ⟨hs0, hs1, hs2, hs3, hs4, hs5, hs6, hs7⟩ := hs
      refine ⟨⟨hs3.1, Int.le_refl _, Int.zero_le_ofNat 1, Int.le_refl _⟩, ?_⟩
      intro s t' e1 a1 a2 a3
      conv => whnf
      refine ⟨4, _, _, by decide, wk_of (by (repeat' apply And.intro) <;> first | trivial | rfl) (by (repeat' apply And.intro) <;> first | trivial | rfl) (Nat.le_refl _) (Nat.le_refl _), ⟨4, t', w0, w1, w2, s, w4, w5, w6, w7, by decide, by decide, rfl, ⟨hs0, hs1, hs2, ⟨a1, a2⟩, hs4, hs5, hs6, hs7⟩, by omega, ?_, rfl, rfl⟩⟩
      simp only [q64] at hv ⊢
      unfold val8 val at *
      omega
    · conv => whnf
      exact hQ _ _ _ _ _ _ _ _ _ hs (by rw [← hv, Int.mul_zero, Int.add_zero])
  · obtain rfl | rfl : c = 1 ∨ c = 0 := by omega
    · conv => whnf
      obtain ⟨hs0, hs1, hs2, hs3, hs4, hs5, hs6, hs7⟩ := hs
      refine ⟨⟨hs4.1, Int.le_refl _, Int.zero_le_ofNat 1, Int.le_refl _⟩, ?_⟩
      intro s t' e1 a1 a2 a3
      conv => whnf
      refine ⟨3, _, _, by decide, wk_of (by (repeat' apply And.intro) <;> first | trivial | rfl) (by (repeat' apply And.intro) <;> first | trivial | rfl) (Nat.le_refl _) (Nat.le_refl _), ⟨5, t', w0, w1, w2, w3, s, w5, w6, w7, by decide, by decide, rfl, ⟨hs0, hs1, hs2, hs3, ⟨a1, a2⟩, hs5, hs6, hs7⟩, by omega, ?_, rfl, rfl⟩⟩
      simp only [q64] at hv ⊢
      unfold val8 val at *
      omega
    · conv => whnf
      exact hQ _ _ _ _ _ _ _ _ _ hs (by rw [← hv, Int.mul_zero, Int.add_zero])
  · obtain rfl | rfl : c = 1 ∨ c = 0 := by omega
    · conv => whnf
      obtain ⟨hs0, hs1, hs2, hs3, hs4, hs5, hs6, hs7⟩ := hs
      refine ⟨⟨hs5.1, Int.le_refl _, Int.zero_le_ofNat 1, Int.le_refl _⟩, ?_⟩
      intro s t' e1 a1 a2 a3
      conv => whnf
      refine ⟨2, _, _, by decide, wk_of (by (repeat' apply And.intro) <;> first | trivial | rfl) (by (repeat' apply And.intro) <;> first | trivial | rfl) (Nat.le_refl _) (Nat.le_refl _), ⟨6, t', w0, w1, w2, w3, w4, s, w6, w7, by decide, by decide, rfl, ⟨hs0, hs1, hs2, hs3, hs4, ⟨a1, a2⟩, hs6, hs7⟩, by omega, ?_, rfl, rfl⟩⟩
      simp only [q64] at hv ⊢
      unfold val8 val at *
      omega
    · conv => whnf
      exact hQ _ _ _ _ _ _ _ _ _ hs (by rw [← hv, Int.mul_zero, Int.add_zero])
  · obtain rfl | rfl : c = 1 ∨ c = 0 := by omega
    · conv => whnf
      obtain ⟨hs0, hs1, hs2, hs3, hs4, hs5, hs6, hs7⟩ := hs
      refine ⟨⟨hs6.1, Int.le_refl _, Int.zero_le_ofNat 1, Int.le_refl _⟩, ?_⟩
      intro s t' e1 a1 a2 a3
      conv => whnf
      refine ⟨1, _, _, by decide, wk_of (by (repeat' apply And.intro) <;> first | trivial | rfl) (by (repeat' apply And.intro) <;> first | trivial | rfl) (Nat.le_refl _) (Nat.le_refl _), ⟨7, t', w0, w1, w2, w3, w4, w5, s, w7, by decide, by decide, rfl, ⟨hs0, hs1, hs2, hs3, hs4, hs5, ⟨a1, a2⟩, hs7⟩, by omega, ?_, rfl, rfl⟩⟩
      simp only [q64] at hv ⊢
      unfold val8 val at *
      omega
    · conv => whnf
      exact hQ _ _ _ _ _ _ _ _ _ hs (by rw [← hv, Int.mul_zero, Int.add_zero])
  · obtain rfl | rfl : c = 1 ∨ c = 0 := by omega
    · conv => whnf
      obtain ⟨hs0, hs1, hs2, hs3, hs4, hs5, hs6, hs7⟩ := hs
      refine ⟨⟨hs7.1, Int.le_refl _, Int.zero_le_ofNat 1, Int.le_refl _⟩, ?_⟩
      intro s t' e1 a1 a2 a3
      conv => whnf
      refine ⟨0, _, _, by decide, wk_of (by (repeat' apply And.intro) <;> first | trivial | rfl) (by (repeat' apply And.intro) <;> first | trivial | rfl) (Nat.le_refl _) (Nat.le_refl _), ⟨8, t', w0, w1, w2, w3, w4, w5, w6, s, by decide, by decide, rfl, ⟨hs0, hs1, hs2, hs3, hs4, hs5, hs6, ⟨a1, a2⟩⟩, by omega, ?_, rfl, rfl⟩⟩
      simp only [q64] at hv ⊢
      unfold val8 val at *
      omega
    · conv => whnf
      exact hQ _ _ _ _ _ _ _ _ _ hs (by rw [← hv, Int.mul_zero, Int.add_zero])
  · obtain rfl : c = 0 := by
      obtain ⟨hs0, hs1, hs2, hs3, hs4, hs5, hs6, hs7⟩ := hs
      simp only [q64] at hv
      unfold val8 val at hv
      omega
    conv => whnf
    exact hQ _ _ _ _ _ _ _ _ _ hs (by rw [← hv, Int.mul_zero, Int.add_zero])

theorem gather0 {w0 w1 w2 w3 w4 w5 w6 w7 a b : Int} (hw : In8 w0 w1 w2 w3 w4 w5 w6 w7) (ha : InU a) (hb : InU b) (t : Nat) (hT : val8 w0 w1 w2 w3 w4 w5 w6 w7 + q64 0 * (a * b) < 13407807929942597099574024998205846127479365820592393377723561443721764030073546976801874298166903427690031858186486050853753882811946569946433649006084096) (W0 : World) :
    CALL PG W0 f_scalar_gather [.one (.ptr (some (.loc 0 0))), .one (.int .i64 0), .one (u a), .one (u b)] [some ⟨[u w0, u w1, u w2, u w3, u w4, u w5, u w6, u w7], t, 0, false⟩] fun v m' => v = .tup [] ∧ ∃ k, m' = [some k] ∧ closedL 0 k.cells = true ∧ GaR (val8 w0 w1 w2 w3 w4 w5 w6 w7 + q64 0 * (a * b)) t k := by
  refine call_of_swp (gOk W0) (cd := bodyOf F_scalar_gather) h_scalar_gather rfl (by kernel_rfl) (by kernel_rfl) ?_
  obtain ⟨hw0, hw1, hw2, hw3, hw4, hw5, hw6, hw7⟩ := hw
  obtain ⟨T, hTe⟩ : ∃ T, T = val8 w0 w1 w2 w3 w4 w5 w6 w7 + q64 0 * (a * b) := ⟨_, rfl⟩
  rw [← hTe] at hT ⊢
  conv => whnf
  refine ⟨⟨ha.1, ha.2, hb.1, hb.2⟩, ?_⟩
  intro hi lo e0 a1 a2 a3 a4 a5
  conv => whnf
  refine ⟨⟨hw0.1, a3, Int.le_refl _, Int.zero_le_ofNat 1⟩, ?_⟩
  intro x c e1 a6 a7 a8
  conv => whnf
  have hc1 : c ≤ 1 := by omega
  refine ⟨⟨hw1.1, a1, a8, hc1⟩, ?_⟩
  intro y d e2 b1 b2 b3
  conv => whnf
  have hd1 : d ≤ 1 := by omega
  have hE : val8 x y w2 w3 w4 w5 w6 w7 + q64 2 * d = T := by
    rw [hTe, ← e0]
    clear hTe hT
    simp only [q64]
    unfold val8 val
    omega
  have hS : In8 x y w2 w3 w4 w5 w6 w7 := ⟨⟨a6, a7⟩, ⟨b1, b2⟩, hw2, hw3, hw4, hw5, hw6, hw7⟩
  clear e0 e1 e2
  refine .inr (loop_inv (gOk W0) (GaI T t) (fun k e' m' hI => ga_round hT W0 _ (fun e r0 r1 r2 r3 r4 r5 r6 r7 hr hv => ?_) k e' m' hI) ?_)
  · conv => whnf
    exact ⟨rfl, _, rfl, rfl, r0, r1, r2, r3, r4, r5, r6, r7, hr, hv, rfl⟩
  · refine ⟨6, _, _, wk_of (by (repeat' apply And.intro) <;> first | trivial | rfl) (by (repeat' apply And.intro) <;> first | trivial | rfl) (Nat.le_refl _) (Nat.le_refl _), ⟨2, d, x, y, w2, w3, w4, w5, w6, w7, by decide, by decide, by decide, hS, by omega, hE, rfl, rfl⟩⟩

theorem gather1 {w0 w1 w2 w3 w4 w5 w6 w7 a b : Int} (hw : In8 w0 w1 w2 w3 w4 w5 w6 w7) (ha : InU a) (hb : InU b) (t : Nat) (hT : val8 w0 w1 w2 w3 w4 w5 w6 w7 + q64 1 * (a * b) < 13407807929942597099574024998205846127479365820592393377723561443721764030073546976801874298166903427690031858186486050853753882811946569946433649006084096) (W0 : World) :
    CALL PG W0 f_scalar_gather [.one (.ptr (some (.loc 0 0))), .one (.int .i64 1), .one (u a), .one (u b)] [some ⟨[u w0, u w1, u w2, u w3, u w4, u w5, u w6, u w7], t, 0, false⟩] fun v m' => v = .tup [] ∧ ∃ k, m' = [some k] ∧ closedL 0 k.cells = true ∧ GaR (val8 w0 w1 w2 w3 w4 w5 w6 w7 + q64 1 * (a * b)) t k := by
  refine call_of_swp (gOk W0) (cd := bodyOf F_scalar_gather) h_scalar_gather rfl (by kernel_rfl) (by kernel_rfl) ?_
  obtain ⟨hw0, hw1, hw2, hw3, hw4, hw5, hw6, hw7⟩ := hw
  obtain ⟨T, hTe⟩ : ∃ T, T = val8 w0 w1 w2 w3 w4 w5 w6 w7 + q64 1 * (a * b) := ⟨_, rfl⟩
  rw [← hTe] at hT ⊢
  conv => whnf
  refine ⟨⟨ha.1, ha.2, hb.1, hb.2⟩, ?_⟩
  intro hi lo e0 a1 a2 a3 a4 a5
  conv => whnf
  refine ⟨⟨hw1.1, a3, Int.le_refl _, Int.zero_le_ofNat 1⟩, ?_⟩
  intro x c e1 a6 a7 a8
  conv => whnf
  have hc1 : c ≤ 1 := by omega
  refine ⟨⟨hw2.1, a1, a8, hc1⟩, ?_⟩
  intro y d e2 b1 b2 b3
  conv => whnf
  have hd1 : d ≤ 1 := by omega
  have hE : val8 w0 x y w3 w4 w5 w6 w7 + q64 3 * d = T := by
    rw [hTe, ← e0]
    clear hTe hT
    simp only [q64]
    unfold val8 val
    omega
  have hS : In8 w0 x y w3 w4 w5 w6 w7 := ⟨hw0, ⟨a6, a7⟩, ⟨b1, b2⟩, hw3, hw4, hw5, hw6, hw7⟩
  clear e0 e1 e2
  refine .inr (loop_inv (gOk W0) (GaI T t) (fun k e' m' hI => ga_round hT W0 _ (fun e r0 r1 r2 r3 r4 r5 r6 r7 hr hv => ?_) k e' m' hI) ?_)
  · conv => whnf
    exact ⟨rfl, _, rfl, rfl, r0, r1, r2, r3, r4, r5, r6, r7, hr, hv, rfl⟩
  · refine ⟨5, _, _, wk_of (by (repeat' apply And.intro) <;> first | trivial | rfl) (by (repeat' apply And.intro) <;> first | trivial | rfl) (Nat.le_refl _) (Nat.le_refl _), ⟨3, d, w0, x, y, w3, w4, w5, w6, w7, by decide, by decide, by decide, hS, by omega, hE, rfl, rfl⟩⟩

theorem gather2 {w0 w1 w2 w3 w4 w5 w6 w7 a b : Int} (hw : In8 w0 w1 w2 w3 w4 w5 w6 w7) (ha : InU a) (hb : InU b) (t : Nat) (hT : val8 w0 w1 w2 w3 w4 w5 w6 w7 + q64 2 * (a * b) < 13407807929942597099574024998205846127479365820592393377723561443721764030073546976801874298166903427690031858186486050853753882811946569946433649006084096) (W0 : World) :
    CALL PG W0 f_scalar_gather [.one (.ptr (some (.loc 0 0))), .one (.int .i64 2), .one (u a), .one (u b)] [some ⟨[u w0, u w1, u w2, u w3, u w4, u w5, u w6, u w7], t, 0, false⟩] fun v m' => v = .tup [] ∧ ∃ k, m' = [some k] ∧ closedL 0 k.cells = true ∧ GaR (val8 w0 w1 w2 w3 w4 w5 w6 w7 + q64 2 * (a * b)) t k := by
  refine call_of_swp (gOk W0) (cd := bodyOf F_scalar_gather) h_scalar_gather rfl (by kernel_rfl) (by kernel_rfl) ?_
  obtain ⟨hw0, hw1, hw2, hw3, hw4, hw5, hw6, hw7⟩ := hw
  obtain ⟨T, hTe⟩ : ∃ T, T = val8 w0 w1 w2 w3 w4 w5 w6 w7 + q64 2 * (a * b) := ⟨_, rfl⟩
  rw [← hTe] at hT ⊢
  conv => whnf
  refine ⟨⟨ha.1, ha.2, hb.1, hb.2⟩, ?_⟩
  intro hi lo e0 a1 a2 a3 a4 a5
  conv => whnf
  refine ⟨⟨hw2.1, a3, Int.le_refl _, Int.zero_le_ofNat 1⟩, ?_⟩
  intro x c e1 a6 a7 a8
  conv => whnf
  have hc1 : c ≤ 1 := by omega
  refine ⟨⟨hw3.1, a1, a8, hc1⟩, ?_⟩
  intro y d e2 b1 b2 b3
  conv => whnf
  have hd1 : d ≤ 1 := by omega
  have hE : val8 w0 w1 x y w4 w5 w6 w7 + q64 4 * d = T := by
    rw [hTe, ← e0]
    clear hTe hT
    simp only [q64]
    unfold val8 val
    omega
  have hS : In8 w0 w1 x y w4 w5 w6 w7 := ⟨hw0, hw1, ⟨a6, a7⟩, ⟨b1, b2⟩, hw4, hw5, hw6, hw7⟩
  clear e0 e1 e2
  refine .inr (loop_inv (gOk W0) (GaI T t) (fun k e' m' hI => ga_round hT W0 _ (fun e r0 r1 r2 r3 r4 r5 r6 r7 hr hv => ?_) k e' m' hI) ?_)
  · conv => whnf
    exact ⟨rfl, _, rfl, rfl, r0, r1, r2, r3, r4, r5, r6, r7, hr, hv, rfl⟩
  · refine ⟨4, _, _, wk_of (by (repeat' apply And.intro) <;> first | trivial | rfl) (by (repeat' apply And.intro) <;> first | trivial | rfl) (Nat.le_refl _) (Nat.le_refl _), ⟨4, d, w0, w1, x, y, w4, w5, w6, w7, by decide, by decide, by decide, hS, by omega, hE, rfl, rfl⟩⟩

theorem gather3 {w0 w1 w2 w3 w4 w5 w6 w7 a b : Int} (hw : In8 w0 w1 w2 w3 w4 w5 w6 w7) (ha : InU a) (hb : InU b) (t : Nat) (hT : val8 w0 w1 w2 w3 w4 w5 w6 w7 + q64 3 * (a * b) < 13407807929942597099574024998205846127479365820592393377723561443721764030073546976801874298166903427690031858186486050853753882811946569946433649006084096) (W0 : World) :
    CALL PG W0 f_scalar_gather [.one (.ptr (some (.loc 0 0))), .one (.int .i64 3), .one (u a), .one (u b)] [some ⟨[u w0, u w1, u w2, u w3, u w4, u w5, u w6, u w7], t, 0, false⟩] fun v m' => v = .tup [] ∧ ∃ k, m' = [some k] ∧ closedL 0 k.cells = true ∧ GaR (val8 w0 w1 w2 w3 w4 w5 w6 w7 + q64 3 * (a * b)) t k := by
  refine call_of_swp (gOk W0) (cd := bodyOf F_scalar_gather) h_scalar_gather rfl (by kernel_rfl) (by kernel_rfl) ?_
  obtain ⟨hw0, hw1, hw2, hw3, hw4, hw5, hw6, hw7⟩ := hw
  obtain ⟨T, hTe⟩ : ∃ T, T = val8 w0 w1 w2 w3 w4 w5 w6 w7 + q64 3 * (a * b) := ⟨_, rfl⟩
  rw [← hTe] at hT ⊢
  conv => whnf
  refine ⟨⟨ha.1, ha.2, hb.1, hb.2⟩, ?_⟩
  intro hi lo e0 a1 a2 a3 a4 a5
  conv => whnf
  refine ⟨⟨hw3.1, a3, Int.le_refl _, Int.zero_le_ofNat 1⟩, ?_⟩
  intro x c e1 a6 a7 a8
  conv => whnf
  have hc1 : c ≤ 1 := by omega
  refine ⟨⟨hw4.1, a1, a8, hc1⟩, ?_⟩
  intro y d e2 b1 b2 b3
  conv => whnf
  have hd1 : d ≤ 1 := by omega
  have hE : val8 w0 w1 w2 x y w5 w6 w7 + q64 5 * d = T := by
    rw [hTe, ← e0]
    clear hTe hT
    simp only [q64]
    unfold val8 val
    omega
  have hS : In8 w0 w1 w2 x y w5 w6 w7 := ⟨hw0, hw1, hw2, ⟨a6, a7⟩, ⟨b1, b2⟩, hw5, hw6, hw7⟩
  clear e0 e1 e2
  refine .inr (loop_inv (gOk W0) (GaI T t) (fun k e' m' hI => ga_round hT W0 _ (fun e r0 r1 r2 r3 r4 r5 r6 r7 hr hv => ?_) k e' m' hI) ?_)
  · conv => whnf
    exact ⟨rfl, _, rfl, rfl, r0, r1, r2, r3, r4, r5, r6, r7, hr, hv, rfl⟩
  · refine ⟨3, _, _, wk_of (by (repeat' apply And.intro) <;> first | trivial | rfl) (by (repeat' apply And.intro) <;> first | trivial | rfl) (Nat.le_refl _) (Nat.le_refl _), ⟨5, d, w0, w1, w2, x, y, w5, w6, w7, by decide, by decide, by decide, hS, by omega, hE, rfl, rfl⟩⟩

theorem gather4 {w0 w1 w2 w3 w4 w5 w6 w7 a b : Int} (hw : In8 w0 w1 w2 w3 w4 w5 w6 w7) (ha : InU a) (hb : InU b) (t : Nat) (hT : val8 w0 w1 w2 w3 w4 w5 w6 w7 + q64 4 * (a * b) < 13407807929942597099574024998205846127479365820592393377723561443721764030073546976801874298166903427690031858186486050853753882811946569946433649006084096) (W0 : World) :
    CALL PG W0 f_scalar_gather [.one (.ptr (some (.loc 0 0))), .one (.int .i64 4), .one (u a), .one (u b)] [some ⟨[u w0, u w1, u w2, u w3, u w4, u w5, u w6, u w7], t, 0, false⟩] fun v m' => v = .tup [] ∧ ∃ k, m' = [some k] ∧ closedL 0 k.cells = true ∧ GaR (val8 w0 w1 w2 w3 w4 w5 w6 w7 + q64 4 * (a * b)) t k := by
  refine call_of_swp (gOk W0) (cd := bodyOf F_scalar_gather) h_scalar_gather rfl (by kernel_rfl) (by kernel_rfl) ?_
  obtain ⟨hw0, hw1, hw2, hw3, hw4, hw5, hw6, hw7⟩ := hw
  obtain ⟨T, hTe⟩ : ∃ T, T = val8 w0 w1 w2 w3 w4 w5 w6 w7 + q64 4 * (a * b) := ⟨_, rfl⟩
  rw [← hTe] at hT ⊢
  conv => whnf
  refine ⟨⟨ha.1, ha.2, hb.1, hb.2⟩, ?_⟩
  intro hi lo e0 a1 a2 a3 a4 a5
  conv => whnf
  refine ⟨⟨hw4.1, a3, Int.le_refl _, Int.zero_le_ofNat 1⟩, ?_⟩
  intro x c e1 a6 a7 a8
  conv => whnf
  have hc1 : c ≤ 1 := by omega
  refine ⟨⟨hw5.1, a1, a8, hc1⟩, ?_⟩
  intro y d e2 b1 b2 b3
  conv => whnf
  have hd1 : d ≤ 1 := by omega
  have hE : val8 w0 w1 w2 w3 x y w6 w7 + q64 6 * d = T := by
    rw [hTe, ← e0]
    clear hTe hT
    simp only [q64]
    unfold val8 val
    omega
  have hS : In8 w0 w1 w2 w3 x y w6 w7 := ⟨hw0, hw1, hw2, hw3, ⟨a6, a7⟩, ⟨b1, b2⟩, hw6, hw7⟩
  clear e0 e1 e2
  refine .inr (loop_inv (gOk W0) (GaI T t) (fun k e' m' hI => ga_round hT W0 _ (fun e r0 r1 r2 r3 r4 r5 r6 r7 hr hv => ?_) k e' m' hI) ?_)
  · conv => whnf
    exact ⟨rfl, _, rfl, rfl, r0, r1, r2, r3, r4, r5, r6, r7, hr, hv, rfl⟩
  · refine ⟨2, _, _, wk_of (by (repeat' apply And.intro) <;> first | trivial | rfl) (by (repeat' apply And.intro) <;> first | trivial | rfl) (Nat.le_refl _) (Nat.le_refl _), ⟨6, d, w0, w1, w2, w3, x, y, w6, w7, by decide, by decide, by decide, hS, by omega, hE, rfl, rfl⟩⟩

theorem gather5 {w0 w1 w2 w3 w4 w5 w6 w7 a b : Int} (hw : In8 w0 w1 w2 w3 w4 w5 w6 w7) (ha : InU a) (hb : InU b) (t : Nat) (hT : val8 w0 w1 w2 w3 w4 w5 w6 w7 + q64 5 * (a * b) < 13407807929942597099574024998205846127479365820592393377723561443721764030073546976801874298166903427690031858186486050853753882811946569946433649006084096) (W0 : World) :
    CALL PG W0 f_scalar_gather [.one (.ptr (some (.loc 0 0))), .one (.int .i64 5), .one (u a), .one (u b)] [some ⟨[u w0, u w1, u w2, u w3, u w4, u w5, u w6, u w7], t, 0, false⟩] fun v m' => v = .tup [] ∧ ∃ k, m' = [some k] ∧ closedL 0 k.cells = true ∧ GaR (val8 w0 w1 w2 w3 w4 w5 w6 w7 + q64 5 * (a * b)) t k := by
  refine call_of_swp (gOk W0) (cd := bodyOf F_scalar_gather) h_scalar_gather rfl (by kernel_rfl) (by kernel_rfl) ?_
  obtain ⟨hw0, hw1, hw2, hw3, hw4, hw5, hw6, hw7⟩ := hw
  obtain ⟨T, hTe⟩ : ∃ T, T = val8 w0 w1 w2 w3 w4 w5 w6 w7 + q64 5 * (a * b) := ⟨_, rfl⟩
  rw [← hTe] at hT ⊢
  conv => whnf
  refine ⟨⟨ha.1, ha.2, hb.1, hb.2⟩, ?_⟩
  intro hi lo e0 a1 a2 a3 a4 a5
  conv => whnf
  refine ⟨⟨hw5.1, a3, Int.le_refl _, Int.zero_le_ofNat 1⟩, ?_⟩
  intro x c e1 a6 a7 a8
  conv => whnf
  have hc1 : c ≤ 1 := by omega
  refine ⟨⟨hw6.1, a1, a8, hc1⟩, ?_⟩
  intro y d e2 b1 b2 b3
  conv => whnf
  have hd1 : d ≤ 1 := by omega
  have hE : val8 w0 w1 w2 w3 w4 x y w7 + q64 7 * d = T := by
    rw [hTe, ← e0]
    clear hTe hT
    simp only [q64]
    unfold val8 val
    omega
  have hS : In8 w0 w1 w2 w3 w4 x y w7 := ⟨hw0, hw1, hw2, hw3, hw4, ⟨a6, a7⟩, ⟨b1, b2⟩, hw7⟩
  clear e0 e1 e2
  refine .inr (loop_inv (gOk W0) (GaI T t) (fun k e' m' hI => ga_round hT W0 _ (fun e r0 r1 r2 r3 r4 r5 r6 r7 hr hv => ?_) k e' m' hI) ?_)
  · conv => whnf
    exact ⟨rfl, _, rfl, rfl, r0, r1, r2, r3, r4, r5, r6, r7, hr, hv, rfl⟩
  · refine ⟨1, _, _, wk_of (by (repeat' apply And.intro) <;> first | trivial | rfl) (by (repeat' apply And.intro) <;> first | trivial | rfl) (Nat.le_refl _) (Nat.le_refl _), ⟨7, d, w0, w1, w2, w3, w4, x, y, w7, by decide, by decide, by decide, hS, by omega, hE, rfl, rfl⟩⟩

theorem gather6 {w0 w1 w2 w3 w4 w5 w6 w7 a b : Int} (hw : In8 w0 w1 w2 w3 w4 w5 w6 w7) (ha : InU a) (hb : InU b) (t : Nat) (hT : val8 w0 w1 w2 w3 w4 w5 w6 w7 + q64 6 * (a * b) < 13407807929942597099574024998205846127479365820592393377723561443721764030073546976801874298166903427690031858186486050853753882811946569946433649006084096) (W0 : World) :
    CALL PG W0 f_scalar_gather [.one (.ptr (some (.loc 0 0))), .one (.int .i64 6), .one (u a), .one (u b)] [some ⟨[u w0, u w1, u w2, u w3, u w4, u w5, u w6, u w7], t, 0, false⟩] fun v m' => v = .tup [] ∧ ∃ k, m' = [some k] ∧ closedL 0 k.cells = true ∧ GaR (val8 w0 w1 w2 w3 w4 w5 w6 w7 + q64 6 * (a * b)) t k := by
  refine call_of_swp (gOk W0) (cd := bodyOf F_scalar_gather) h_scalar_gather rfl (by kernel_rfl) (by kernel_rfl) ?_
  obtain ⟨hw0, hw1, hw2, hw3, hw4, hw5, hw6, hw7⟩ := hw
  obtain ⟨T, hTe⟩ : ∃ T, T = val8 w0 w1 w2 w3 w4 w5 w6 w7 + q64 6 * (a * b) := ⟨_, rfl⟩
  rw [← hTe] at hT ⊢
  conv => whnf
  refine ⟨⟨ha.1, ha.2, hb.1, hb.2⟩, ?_⟩
  intro hi lo e0 a1 a2 a3 a4 a5
  conv => whnf
  refine ⟨⟨hw6.1, a3, Int.le_refl _, Int.zero_le_ofNat 1⟩, ?_⟩
  intro x c e1 a6 a7 a8
  conv => whnf
  have hc1 : c ≤ 1 := by omega
  refine ⟨⟨hw7.1, a1, a8, hc1⟩, ?_⟩
  intro y d e2 b1 b2 b3
  conv => whnf
  have hd1 : d ≤ 1 := by omega
  have hE : val8 w0 w1 w2 w3 w4 w5 x y + q64 8 * d = T := by
    rw [hTe, ← e0]
    clear hTe hT
    simp only [q64]
    unfold val8 val
    omega
  have hS : In8 w0 w1 w2 w3 w4 w5 x y := ⟨hw0, hw1, hw2, hw3, hw4, hw5, ⟨a6, a7⟩, ⟨b1, b2⟩⟩
  clear e0 e1 e2
  refine .inr (loop_inv (gOk W0) (GaI T t) (fun k e' m' hI => ga_round hT W0 _ (fun e r0 r1 r2 r3 r4 r5 r6 r7 hr hv => ?_) k e' m' hI) ?_)
  · conv => whnf
    exact ⟨rfl, _, rfl, rfl, r0, r1, r2, r3, r4, r5, r6, r7, hr, hv, rfl⟩
  · refine ⟨0, _, _, wk_of (by (repeat' apply And.intro) <;> first | trivial | rfl) (by (repeat' apply And.intro) <;> first | trivial | rfl) (Nat.le_refl _) (Nat.le_refl _), ⟨8, d, w0, w1, w2, w3, w4, w5, x, y, by decide, by decide, by decide, hS, by omega, hE, rfl, rfl⟩⟩

end Go.Ev

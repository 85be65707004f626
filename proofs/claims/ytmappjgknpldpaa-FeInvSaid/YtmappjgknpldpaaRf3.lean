import Derived.Test.YtmappjgknpldpaaRf2
namespace Go.Ev

def val8 (w0 w1 w2 w3 w4 w5 w6 w7 : Int) : Int := val w0 w1 w2 w3 + 115792089237316195423570985008687907853269984665640564039457584007913129639936 * val w4 w5 w6 w7

def dcells (D : MD) : List Sc := [u D.m0, u D.m1, u D.m2, u D.m3, u D.l0, u D.l1, u D.l2]

def foldB : Nat → Int
  | 0 => 0
  | 1 => 21778071482940061661655974875633165533184
  | 2 => 115792089237316195423570985008687907864159020407110594870285571445729712406528
  | 3 => 1852673427797059126777135760139006525652319754650249024631321344126610074238976
  | 4 => 157608024785577916849116160400574455220318957081861786671793173616982887085988842445657065019539662563226511961227264
  | _ => 13407807929942597099574024998205846127479365820592393377723561443721764030073546976801874298166903427690031858186486050853753882811946569946433649006084096

def hp (w4 w5 w6 w7 : Int) : Nat → Int
  | 0 => 0
  | 1 => w4
  | 2 => w4 + 18446744073709551616 * w5
  | 3 => w4 + 18446744073709551616 * w5 + 340282366920938463463374607431768211456 * w6
  | _ => val w4 w5 w6 w7

def q64 : Nat → Int
  | 0 => 1
  | 1 => 18446744073709551616
  | 2 => 340282366920938463463374607431768211456
  | 3 => 6277101735386680763835789423207666416102355444464034512896
  | 4 => 115792089237316195423570985008687907853269984665640564039457584007913129639936
  | 5 => 2135987035920910082395021706169552114602704522356652769947041607822219725780640550022962086936576
  | 6 => 39402006196394479212279040100143613805079739270465446667948293404245721771497210611414266254884915640806627990306816
  | 7 => 726838724295606890549323807888004534353641360687318060281490199180639288113397923326191050713763565560762521606266177933534601628614656
  | _ => 13407807929942597099574024998205846127479365820592393377723561443721764030073546976801874298166903427690031858186486050853753882811946569946433649006084096

abbrev In8 (w0 w1 w2 w3 w4 w5 w6 w7 : Int) : Prop := InU w0 ∧ InU w1 ∧ InU w2 ∧ InU w3 ∧ InU w4 ∧ InU w5 ∧ InU w6 ∧ InU w7

def env3 : Env := [(4, .one (.ptr (some (.loc 2 0)))), (3, .one (.ptr (some (.loc 1 0)))), (2, .one (.ptr (some (.loc 0 0))))]
def mem3 (D : MD) (w0 w1 w2 w3 w4 w5 w6 w7 : Int) (t0 t1 t2 : Nat) (m : Mem) : Mem := some ⟨dcells D, t0, 0, false⟩ :: some ⟨[u w0, u w1, u w2, u w3, u w4, u w5, u w6, u w7], t1, 0, false⟩ :: some ⟨[u 0, u 0, u 0, u 0], t2, 0, false⟩ :: m

def FoldI (D : MD) (V : Int) (k : Nat) (e : Env) (m : Mem) : Prop :=
  ∃ (w0 w1 w2 w3 w4 w5 w6 w7 : Int) (t0 t1 t2 : Nat), In8 w0 w1 w2 w3 w4 w5 w6 w7 ∧ 1 ≤ k ∧ k ≤ 5 ∧ val8 w0 w1 w2 w3 w4 w5 w6 w7 % D.M = V % D.M ∧ val8 w0 w1 w2 w3 w4 w5 w6 w7 < foldB k ∧ e = env3 ∧ m = mem3 D w0 w1 w2 w3 w4 w5 w6 w7 t0 t1 t2 []

def MidI (D : MD) (w0 w1 w2 w3 w4 w5 w6 w7 : Int) (k : Nat) (e : Env) (m : Mem) : Prop :=
  ∃ (i : Nat) (r0 r1 r2 r3 r4 r5 r6 r7 : Int) (t0 t1 t2 t3 : Nat), i ≤ 4 ∧ k = 4 - i ∧ In8 r0 r1 r2 r3 r4 r5 r6 r7 ∧ val8 r0 r1 r2 r3 r4 r5 r6 r7 = val w0 w1 w2 w3 + hp w4 w5 w6 w7 i * D.L ∧
    e = (7, .one (.int .i64 i)) :: (5, .one (.ptr (some (.loc 3 0)))) :: env3 ∧ m = mem3 D w0 w1 w2 w3 w4 w5 w6 w7 t0 t1 t2 [some ⟨[u r0, u r1, u r2, u r3, u r4, u r5, u r6, u r7], t3, 0, false⟩]

def CarI (D : MD) (w0 w1 w2 w3 w4 w5 w6 w7 : Int) (T : Int) (i : Nat) (k : Nat) (e : Env) (m : Mem) : Prop :=
  ∃ (j : Nat) (c : Int) (r0 r1 r2 r3 r4 r5 r6 r7 : Int) (t0 t1 t2 t3 : Nat), 3 ≤ j ∧ j ≤ 8 ∧ k = 8 - j ∧ In8 r0 r1 r2 r3 r4 r5 r6 r7 ∧ InU c ∧ val8 r0 r1 r2 r3 r4 r5 r6 r7 + q64 j * c = T ∧
    e = (16, .one (.int .i64 j)) :: (8, .one (u c)) :: (7, .one (.int .i64 i)) :: (5, .one (.ptr (some (.loc 3 0)))) :: env3 ∧ m = mem3 D w0 w1 w2 w3 w4 w5 w6 w7 t0 t1 t2 [some ⟨[u r0, u r1, u r2, u r3, u r4, u r5, u r6, u r7], t3, 0, false⟩]

theorem MD.Ok.l2' {D : MD} (h : D.Ok) : InU D.l2 := by
  have := h.l2
  exact ⟨by omega, by omega⟩

theorem MD.Ok.L {D : MD} (h : D.Ok) : 0 ≤ D.L ∧ D.L < 680564733841876926926749214863536422912 := by
  have := h.l0; have := h.l1; have := h.l2
  unfold MD.L
  exact ⟨by omega, by omega⟩

theorem mul_L (D : MD) (w : Int) : w * D.L = w * D.l0 + 18446744073709551616 * (w * D.l1) + 340282366920938463463374607431768211456 * (w * D.l2) := by
  unfold MD.L
  rw [Int.mul_add, Int.mul_add, Int.mul_left_comm, Int.mul_left_comm w]

theorem hp_succ (D : MD) (w4 w5 w6 w7 : Int) : hp w4 w5 w6 w7 0 * D.L = 0 ∧ hp w4 w5 w6 w7 1 * D.L = hp w4 w5 w6 w7 0 * D.L + w4 * D.L ∧ hp w4 w5 w6 w7 2 * D.L = hp w4 w5 w6 w7 1 * D.L + 18446744073709551616 * (w5 * D.L) ∧
    hp w4 w5 w6 w7 3 * D.L = hp w4 w5 w6 w7 2 * D.L + 340282366920938463463374607431768211456 * (w6 * D.L) ∧ hp w4 w5 w6 w7 4 * D.L = hp w4 w5 w6 w7 3 * D.L + 6277101735386680763835789423207666416102355444464034512896 * (w7 * D.L) := by
  unfold hp val
  simp only [Int.add_mul, Int.mul_assoc, Int.zero_mul]
  refine ⟨trivial, by omega, trivial, trivial, trivial⟩

theorem hp_bound {D : MD} (hD : D.Ok) {w0 w1 w2 w3 w4 w5 w6 w7 : Int} (hw : In8 w0 w1 w2 w3 w4 w5 w6 w7) {T : Int} {i : Nat} (hi : i ≤ 4) (h : T = val w0 w1 w2 w3 + hp w4 w5 w6 w7 i * D.L) : T < 13407807929942597099574024998205846127479365820592393377723561443721764030073546976801874298166903427690031858186486050853753882811946569946433649006084096 := by
  obtain ⟨h0, h1, h2, h3, h4, h5, h6, h7⟩ := hw
  have hL := hD.L
  have a : 0 ≤ hp w4 w5 w6 w7 i ∧ hp w4 w5 w6 w7 i < 115792089237316195423570985008687907853269984665640564039457584007913129639936 := by
    obtain rfl | rfl | rfl | rfl | rfl : i = 0 ∨ i = 1 ∨ i = 2 ∨ i = 3 ∨ i = 4 := by omega
    all_goals simp only [hp, val]
    all_goals exact ⟨by omega, by omega⟩
  have := Int.mul_le_mul_of_nonneg_left (Int.le_of_lt hL.2) a.1
  have : val w0 w1 w2 w3 < 115792089237316195423570985008687907853269984665640564039457584007913129639936 := by unfold val; omega
  omega

def loopsOf : Code → List Code
  | .seq a b => loopsOf a ++ loopsOf b
  | .cond _ a b => loopsOf a ++ loopsOf b
  | .block _ b => loopsOf b
  | .loop b => b :: loopsOf b
  | _ => []

def lp (f : Func) (n : Nat) : Code := match (loopsOf (bodyOf f))[n]? with | some c => c | none => .skip

set_option maxHeartbeats 4000000 in
theorem mid0 {D : MD} (hD : D.Ok) {w0 w1 w2 w3 w4 w5 w6 w7 r0 r1 r2 r3 r4 r5 r6 r7 : Int} {t0 t1 t2 t3 : Nat} (hw : In8 w0 w1 w2 w3 w4 w5 w6 w7) (hr : In8 r0 r1 r2 r3 r4 r5 r6 r7) (hE0 : val8 r0 r1 r2 r3 r4 r5 r6 r7 = val w0 w1 w2 w3 + hp w4 w5 w6 w7 0 * D.L) (W0 : World) (Q : Exit → Env → Mem → Prop) :
    swp (GG W0) (lp F_ref03_fold 2) (fun x e1 m1 => match x with
      | .normal => ∃ j e2 m2, j < 4 - 0 ∧ Wk (mem3 D w0 w1 w2 w3 w4 w5 w6 w7 t0 t1 t2 [some ⟨[u r0, u r1, u r2, u r3, u r4, u r5, u r6, u r7], t3, 0, false⟩]).length e1 m1 e2 m2 ∧ MidI D w0 w1 w2 w3 w4 w5 w6 w7 j e2 m2
      | x => Q x e1 m1) ((7, .one (.int .i64 (0 : Nat))) :: (5, .one (.ptr (some (.loc 3 0)))) :: env3) (mem3 D w0 w1 w2 w3 w4 w5 w6 w7 t0 t1 t2 [some ⟨[u r0, u r1, u r2, u r3, u r4, u r5, u r6, u r7], t3, 0, false⟩]) := by
  obtain ⟨hw0, hw1, hw2, hw3, hw4, hw5, hw6, hw7⟩ := hw
  obtain ⟨hr0, hr1, hr2, hr3, hr4, hr5, hr6, hr7⟩ := hr
  have z0 : InU 0 := ⟨by omega, by omega⟩
  conv => whnf
  refine .inl ⟨4, ?_⟩
  conv => whnf
  refine ⟨⟨hw4.1, hw4.2, hD.l0.1, hD.l0.2⟩, ?_⟩
  intro hi lo e0 a1 a2 a3 a4 a5
  conv => whnf
  refine ⟨⟨a3, hr0.1, Int.le_refl _, Int.zero_le_ofNat 1⟩, ?_⟩
  intro x k e1 a6 a7 a8
  conv => whnf
  refine ⟨⟨a6, Int.le_refl _, Int.le_refl _, Int.zero_le_ofNat 1⟩, ?_⟩
  intro y0 l e2 g00 g01 a9
  obtain ⟨c0, d0, f0⟩ := mac e0 a1 a3 a4 a5 hr0 z0 e1 a6 a7 a8 e2 g00 g01 a9
  obtain ⟨q0, hq0⟩ : ∃ q, q = hi + k + l := ⟨_, rfl⟩
  rw [← hq0] at d0 f0
  clear e0 a1 a2 a3 a4 a5 e1 a6 a7 a8 e2 a9
  conv => whnf
  refine ⟨⟨hw4.1, hw4.2, hD.l1.1, hD.l1.2⟩, ?_⟩
  intro hi lo e0 a1 a2 a3 a4 a5
  conv => whnf
  refine ⟨⟨a3, hr1.1, Int.le_refl _, Int.zero_le_ofNat 1⟩, ?_⟩
  intro x k e1 a6 a7 a8
  conv => whnf
  rw [c0]
  rw [← hq0]
  refine ⟨⟨a6, f0.1, Int.le_refl _, Int.zero_le_ofNat 1⟩, ?_⟩
  intro y1 l e2 g10 g11 a9
  obtain ⟨c1, d1, f1⟩ := mac e0 a1 a3 a4 a5 hr1 f0 e1 a6 a7 a8 e2 g10 g11 a9
  obtain ⟨q1, hq1⟩ : ∃ q, q = hi + k + l := ⟨_, rfl⟩
  rw [← hq1] at d1 f1
  clear e0 a1 a2 a3 a4 a5 e1 a6 a7 a8 e2 a9
  conv => whnf
  refine ⟨⟨hw4.1, hw4.2, hD.l2'.1, hD.l2'.2⟩, ?_⟩
  intro hi lo e0 a1 a2 a3 a4 a5
  conv => whnf
  refine ⟨⟨a3, hr2.1, Int.le_refl _, Int.zero_le_ofNat 1⟩, ?_⟩
  intro x k e1 a6 a7 a8
  conv => whnf
  rw [c1]
  rw [← hq1]
  refine ⟨⟨a6, f1.1, Int.le_refl _, Int.zero_le_ofNat 1⟩, ?_⟩
  intro y2 l e2 g20 g21 a9
  obtain ⟨c2, d2, f2⟩ := mac e0 a1 a3 a4 a5 hr2 f1 e1 a6 a7 a8 e2 g20 g21 a9
  obtain ⟨q2, hq2⟩ : ∃ q, q = hi + k + l := ⟨_, rfl⟩
  rw [← hq2] at d2 f2
  clear e0 a1 a2 a3 a4 a5 e1 a6 a7 a8 e2 a9
  conv => whnf
  have hL := mul_L D w4
  have hS := hp_succ D w4 w5 w6 w7
  obtain ⟨T, hT⟩ : ∃ T, T = val w0 w1 w2 w3 + hp w4 w5 w6 w7 1 * D.L := ⟨_, rfl⟩
  have hTb := hp_bound hD ⟨hw0, hw1, hw2, hw3, hw4, hw5, hw6, hw7⟩ (by decide) hT
  have hE : val8 y0 y1 y2 r3 r4 r5 r6 r7 + q64 3 * q2 = T := by
    rw [hT, hS.2.1, hL]
    clear hT hTb hL hS c2 hq0 hq1 hq2
    generalize w4 * D.l0 = Q0 at *
    generalize w4 * D.l1 = Q1 at *
    generalize w4 * D.l2 = Q2 at *
    generalize hp w4 w5 w6 w7 0 * D.L = G at *
    unfold val8 val at *
    simp only [q64]
    omega
  have hcw : wr .u64 ((_ : Int) % 18446744073709551616 + _) = u q2 := congrArg (Sc.int .u64) (c2.trans hq2.symm)
  have hI : In8 y0 y1 y2 r3 r4 r5 r6 r7 := ⟨⟨g00, g01⟩, ⟨g10, g11⟩, ⟨g20, g21⟩, hr3, hr4, hr5, hr6, hr7⟩
  clear hL hS d0 d1 d2 c0 c1 hq0 hq1 hE0 g00 g01 g10 g11 g20 g21 f0 f1
  refine .inr (loop_inv (gOk W0) (CarI D w0 w1 w2 w3 w4 w5 w6 w7 T 0) ?_ ?_)
  · intro k e' m' hC
    clear hE hI hcw c2 hq2
    obtain ⟨j, c, s0, s1, s2, s3, s4, s5, s6, s7, t0, t1, t2, t3, hj3, hj8, rfl, hs, hc, hv, rfl, rfl⟩ := hC
    obtain rfl | rfl | rfl | rfl | rfl | rfl : j = 3 ∨ j = 4 ∨ j = 5 ∨ j = 6 ∨ j = 7 ∨ j = 8 := by omega
    · conv => whnf
      split
      · rename_i h
        have h := of_decide_eq_true h
        conv => whnf
        obtain ⟨hs0, hs1, hs2, hs3, hs4, hs5, hs6, hs7⟩ := hs
        refine ⟨⟨hs3.1, hc.1, Int.le_refl _, Int.zero_le_ofNat 1⟩, ?_⟩
        intro s t e1 a1 a2 a3
        conv => whnf
        refine ⟨4, _, _, by decide, wk_of (by (repeat' apply And.intro) <;> first | trivial | rfl) (by (repeat' apply And.intro) <;> first | trivial | rfl) (Nat.le_refl _) (Nat.le_refl _), ⟨4, t, s0, s1, s2, s, s4, s5, s6, s7, t0, t1, t2, t3, by decide, by decide, rfl, ⟨hs0, hs1, hs2, ⟨a1, a2⟩, hs4, hs5, hs6, hs7⟩, ⟨by omega, by omega⟩, ?_, rfl, rfl⟩⟩
        simp only [q64] at hv ⊢
        unfold val8 val at *
        omega
      · rename_i h
        have h := of_decide_eq_false h
        conv => whnf
        obtain rfl : c = 0 := by omega
        refine ⟨3, _, _, by decide, wk_of (by (repeat' apply And.intro) <;> first | trivial | rfl) (by (repeat' apply And.intro) <;> first | trivial | rfl) (Nat.le_refl _) (Nat.le_refl _), ⟨1, _, _, _, _, _, _, _, _, t0, t1, t2, t3, by decide, rfl, hs, by rw [← hT, ← hv, Int.mul_zero, Int.add_zero], rfl, rfl⟩⟩
    · conv => whnf
      split
      · rename_i h
        have h := of_decide_eq_true h
        conv => whnf
        obtain ⟨hs0, hs1, hs2, hs3, hs4, hs5, hs6, hs7⟩ := hs
        refine ⟨⟨hs4.1, hc.1, Int.le_refl _, Int.zero_le_ofNat 1⟩, ?_⟩
        intro s t e1 a1 a2 a3
        conv => whnf
        refine ⟨3, _, _, by decide, wk_of (by (repeat' apply And.intro) <;> first | trivial | rfl) (by (repeat' apply And.intro) <;> first | trivial | rfl) (Nat.le_refl _) (Nat.le_refl _), ⟨5, t, s0, s1, s2, s3, s, s5, s6, s7, t0, t1, t2, t3, by decide, by decide, rfl, ⟨hs0, hs1, hs2, hs3, ⟨a1, a2⟩, hs5, hs6, hs7⟩, ⟨by omega, by omega⟩, ?_, rfl, rfl⟩⟩
        simp only [q64] at hv ⊢
        unfold val8 val at *
        omega
      · rename_i h
        have h := of_decide_eq_false h
        conv => whnf
        obtain rfl : c = 0 := by omega
        refine ⟨3, _, _, by decide, wk_of (by (repeat' apply And.intro) <;> first | trivial | rfl) (by (repeat' apply And.intro) <;> first | trivial | rfl) (Nat.le_refl _) (Nat.le_refl _), ⟨1, _, _, _, _, _, _, _, _, t0, t1, t2, t3, by decide, rfl, hs, by rw [← hT, ← hv, Int.mul_zero, Int.add_zero], rfl, rfl⟩⟩
    · conv => whnf
      split
      · rename_i h
        have h := of_decide_eq_true h
        conv => whnf
        obtain ⟨hs0, hs1, hs2, hs3, hs4, hs5, hs6, hs7⟩ := hs
        refine ⟨⟨hs5.1, hc.1, Int.le_refl _, Int.zero_le_ofNat 1⟩, ?_⟩
        intro s t e1 a1 a2 a3
        conv => whnf
        refine ⟨2, _, _, by decide, wk_of (by (repeat' apply And.intro) <;> first | trivial | rfl) (by (repeat' apply And.intro) <;> first | trivial | rfl) (Nat.le_refl _) (Nat.le_refl _), ⟨6, t, s0, s1, s2, s3, s4, s, s6, s7, t0, t1, t2, t3, by decide, by decide, rfl, ⟨hs0, hs1, hs2, hs3, hs4, ⟨a1, a2⟩, hs6, hs7⟩, ⟨by omega, by omega⟩, ?_, rfl, rfl⟩⟩
        simp only [q64] at hv ⊢
        unfold val8 val at *
        omega
      · rename_i h
        have h := of_decide_eq_false h
        conv => whnf
        obtain rfl : c = 0 := by omega
        refine ⟨3, _, _, by decide, wk_of (by (repeat' apply And.intro) <;> first | trivial | rfl) (by (repeat' apply And.intro) <;> first | trivial | rfl) (Nat.le_refl _) (Nat.le_refl _), ⟨1, _, _, _, _, _, _, _, _, t0, t1, t2, t3, by decide, rfl, hs, by rw [← hT, ← hv, Int.mul_zero, Int.add_zero], rfl, rfl⟩⟩
    · conv => whnf
      split
      · rename_i h
        have h := of_decide_eq_true h
        conv => whnf
        obtain ⟨hs0, hs1, hs2, hs3, hs4, hs5, hs6, hs7⟩ := hs
        refine ⟨⟨hs6.1, hc.1, Int.le_refl _, Int.zero_le_ofNat 1⟩, ?_⟩
        intro s t e1 a1 a2 a3
        conv => whnf
        refine ⟨1, _, _, by decide, wk_of (by (repeat' apply And.intro) <;> first | trivial | rfl) (by (repeat' apply And.intro) <;> first | trivial | rfl) (Nat.le_refl _) (Nat.le_refl _), ⟨7, t, s0, s1, s2, s3, s4, s5, s, s7, t0, t1, t2, t3, by decide, by decide, rfl, ⟨hs0, hs1, hs2, hs3, hs4, hs5, ⟨a1, a2⟩, hs7⟩, ⟨by omega, by omega⟩, ?_, rfl, rfl⟩⟩
        simp only [q64] at hv ⊢
        unfold val8 val at *
        omega
      · rename_i h
        have h := of_decide_eq_false h
        conv => whnf
        obtain rfl : c = 0 := by omega
        refine ⟨3, _, _, by decide, wk_of (by (repeat' apply And.intro) <;> first | trivial | rfl) (by (repeat' apply And.intro) <;> first | trivial | rfl) (Nat.le_refl _) (Nat.le_refl _), ⟨1, _, _, _, _, _, _, _, _, t0, t1, t2, t3, by decide, rfl, hs, by rw [← hT, ← hv, Int.mul_zero, Int.add_zero], rfl, rfl⟩⟩
    · conv => whnf
      split
      · rename_i h
        have h := of_decide_eq_true h
        conv => whnf
        obtain ⟨hs0, hs1, hs2, hs3, hs4, hs5, hs6, hs7⟩ := hs
        refine ⟨⟨hs7.1, hc.1, Int.le_refl _, Int.zero_le_ofNat 1⟩, ?_⟩
        intro s t e1 a1 a2 a3
        conv => whnf
        refine ⟨0, _, _, by decide, wk_of (by (repeat' apply And.intro) <;> first | trivial | rfl) (by (repeat' apply And.intro) <;> first | trivial | rfl) (Nat.le_refl _) (Nat.le_refl _), ⟨8, t, s0, s1, s2, s3, s4, s5, s6, s, t0, t1, t2, t3, by decide, by decide, rfl, ⟨hs0, hs1, hs2, hs3, hs4, hs5, hs6, ⟨a1, a2⟩⟩, ⟨by omega, by omega⟩, ?_, rfl, rfl⟩⟩
        simp only [q64] at hv ⊢
        unfold val8 val at *
        omega
      · rename_i h
        have h := of_decide_eq_false h
        conv => whnf
        obtain rfl : c = 0 := by omega
        refine ⟨3, _, _, by decide, wk_of (by (repeat' apply And.intro) <;> first | trivial | rfl) (by (repeat' apply And.intro) <;> first | trivial | rfl) (Nat.le_refl _) (Nat.le_refl _), ⟨1, _, _, _, _, _, _, _, _, t0, t1, t2, t3, by decide, rfl, hs, by rw [← hT, ← hv, Int.mul_zero, Int.add_zero], rfl, rfl⟩⟩
    · conv => whnf
      obtain rfl : c = 0 := by
        obtain ⟨hs0, hs1, hs2, hs3, hs4, hs5, hs6, hs7⟩ := hs
        simp only [q64] at hv
        unfold val8 val at hv
        omega
      refine ⟨3, _, _, by decide, wk_of (by (repeat' apply And.intro) <;> first | trivial | rfl) (by (repeat' apply And.intro) <;> first | trivial | rfl) (Nat.le_refl _) (Nat.le_refl _), ⟨1, _, _, _, _, _, _, _, _, t0, t1, t2, t3, by decide, rfl, hs, by rw [← hT, ← hv, Int.mul_zero, Int.add_zero], rfl, rfl⟩⟩
  · refine ⟨5, _, _, wk_of (by (repeat' apply And.intro) <;> first | trivial | rfl | exact congrArg (fun x => some (TV.one x)) (congrArg (Sc.int .u64) (c2.trans hq2.symm))) (by (repeat' apply And.intro) <;> first | trivial | rfl) (Nat.le_refl _) (Nat.le_refl _), ⟨3, q2, y0, y1, y2, r3, r4, r5, r6, r7, t0, t1, t2, t3, by decide, by decide, rfl, hI, f2, hE, rfl, rfl⟩⟩

set_option maxHeartbeats 4000000 in
theorem mid1 {D : MD} (hD : D.Ok) {w0 w1 w2 w3 w4 w5 w6 w7 r0 r1 r2 r3 r4 r5 r6 r7 : Int} {t0 t1 t2 t3 : Nat} (hw : In8 w0 w1 w2 w3 w4 w5 w6 w7) (hr : In8 r0 r1 r2 r3 r4 r5 r6 r7) (hE0 : val8 r0 r1 r2 r3 r4 r5 r6 r7 = val w0 w1 w2 w3 + hp w4 w5 w6 w7 1 * D.L) (W0 : World) (Q : Exit → Env → Mem → Prop) :
    swp (GG W0) (lp F_ref03_fold 2) (fun x e1 m1 => match x with
      | .normal => ∃ j e2 m2, j < 4 - 1 ∧ Wk (mem3 D w0 w1 w2 w3 w4 w5 w6 w7 t0 t1 t2 [some ⟨[u r0, u r1, u r2, u r3, u r4, u r5, u r6, u r7], t3, 0, false⟩]).length e1 m1 e2 m2 ∧ MidI D w0 w1 w2 w3 w4 w5 w6 w7 j e2 m2
      | x => Q x e1 m1) ((7, .one (.int .i64 (1 : Nat))) :: (5, .one (.ptr (some (.loc 3 0)))) :: env3) (mem3 D w0 w1 w2 w3 w4 w5 w6 w7 t0 t1 t2 [some ⟨[u r0, u r1, u r2, u r3, u r4, u r5, u r6, u r7], t3, 0, false⟩]) := by
  obtain ⟨hw0, hw1, hw2, hw3, hw4, hw5, hw6, hw7⟩ := hw
  obtain ⟨hr0, hr1, hr2, hr3, hr4, hr5, hr6, hr7⟩ := hr
  have z0 : InU 0 := ⟨by omega, by omega⟩
  conv => whnf
  refine .inl ⟨4, ?_⟩
  conv => whnf
  refine ⟨⟨hw5.1, hw5.2, hD.l0.1, hD.l0.2⟩, ?_⟩
  intro hi lo e0 a1 a2 a3 a4 a5
  conv => whnf
  refine ⟨⟨a3, hr1.1, Int.le_refl _, Int.zero_le_ofNat 1⟩, ?_⟩
  intro x k e1 a6 a7 a8
  conv => whnf
  refine ⟨⟨a6, Int.le_refl _, Int.le_refl _, Int.zero_le_ofNat 1⟩, ?_⟩
  intro y0 l e2 g00 g01 a9
  obtain ⟨c0, d0, f0⟩ := mac e0 a1 a3 a4 a5 hr1 z0 e1 a6 a7 a8 e2 g00 g01 a9
  obtain ⟨q0, hq0⟩ : ∃ q, q = hi + k + l := ⟨_, rfl⟩
  rw [← hq0] at d0 f0
  clear e0 a1 a2 a3 a4 a5 e1 a6 a7 a8 e2 a9
  conv => whnf
  refine ⟨⟨hw5.1, hw5.2, hD.l1.1, hD.l1.2⟩, ?_⟩
  intro hi lo e0 a1 a2 a3 a4 a5
  conv => whnf
  refine ⟨⟨a3, hr2.1, Int.le_refl _, Int.zero_le_ofNat 1⟩, ?_⟩
  intro x k e1 a6 a7 a8
  conv => whnf
  rw [c0]
  rw [← hq0]
  refine ⟨⟨a6, f0.1, Int.le_refl _, Int.zero_le_ofNat 1⟩, ?_⟩
  intro y1 l e2 g10 g11 a9
  obtain ⟨c1, d1, f1⟩ := mac e0 a1 a3 a4 a5 hr2 f0 e1 a6 a7 a8 e2 g10 g11 a9
  obtain ⟨q1, hq1⟩ : ∃ q, q = hi + k + l := ⟨_, rfl⟩
  rw [← hq1] at d1 f1
  clear e0 a1 a2 a3 a4 a5 e1 a6 a7 a8 e2 a9
  conv => whnf
  refine ⟨⟨hw5.1, hw5.2, hD.l2'.1, hD.l2'.2⟩, ?_⟩
  intro hi lo e0 a1 a2 a3 a4 a5
  conv => whnf
  refine ⟨⟨a3, hr3.1, Int.le_refl _, Int.zero_le_ofNat 1⟩, ?_⟩
  intro x k e1 a6 a7 a8
  conv => whnf
  rw [c1]
  rw [← hq1]
  refine ⟨⟨a6, f1.1, Int.le_refl _, Int.zero_le_ofNat 1⟩, ?_⟩
  intro y2 l e2 g20 g21 a9
  obtain ⟨c2, d2, f2⟩ := mac e0 a1 a3 a4 a5 hr3 f1 e1 a6 a7 a8 e2 g20 g21 a9
  obtain ⟨q2, hq2⟩ : ∃ q, q = hi + k + l := ⟨_, rfl⟩
  rw [← hq2] at d2 f2
  clear e0 a1 a2 a3 a4 a5 e1 a6 a7 a8 e2 a9
  conv => whnf
  have hL := mul_L D w5
  have hS := hp_succ D w4 w5 w6 w7
  obtain ⟨T, hT⟩ : ∃ T, T = val w0 w1 w2 w3 + hp w4 w5 w6 w7 2 * D.L := ⟨_, rfl⟩
  have hTb := hp_bound hD ⟨hw0, hw1, hw2, hw3, hw4, hw5, hw6, hw7⟩ (by decide) hT
  have hE : val8 r0 y0 y1 y2 r4 r5 r6 r7 + q64 4 * q2 = T := by
    rw [hT, hS.2.2.1, hL]
    clear hT hTb hL hS c2 hq0 hq1 hq2
    generalize w5 * D.l0 = Q0 at *
    generalize w5 * D.l1 = Q1 at *
    generalize w5 * D.l2 = Q2 at *
    generalize hp w4 w5 w6 w7 1 * D.L = G at *
    unfold val8 val at *
    simp only [q64]
    omega
  have hcw : wr .u64 ((_ : Int) % 18446744073709551616 + _) = u q2 := congrArg (Sc.int .u64) (c2.trans hq2.symm)
  have hI : In8 r0 y0 y1 y2 r4 r5 r6 r7 := ⟨hr0, ⟨g00, g01⟩, ⟨g10, g11⟩, ⟨g20, g21⟩, hr4, hr5, hr6, hr7⟩
  clear hL hS d0 d1 d2 c0 c1 hq0 hq1 hE0 g00 g01 g10 g11 g20 g21 f0 f1
  refine .inr (loop_inv (gOk W0) (CarI D w0 w1 w2 w3 w4 w5 w6 w7 T 1) ?_ ?_)
  · intro k e' m' hC
    clear hE hI hcw c2 hq2
    obtain ⟨j, c, s0, s1, s2, s3, s4, s5, s6, s7, t0, t1, t2, t3, hj3, hj8, rfl, hs, hc, hv, rfl, rfl⟩ := hC
    obtain rfl | rfl | rfl | rfl | rfl | rfl : j = 3 ∨ j = 4 ∨ j = 5 ∨ j = 6 ∨ j = 7 ∨ j = 8 := by omega
    · conv => whnf
      split
      · rename_i h
        have h := of_decide_eq_true h
        conv => whnf
        obtain ⟨hs0, hs1, hs2, hs3, hs4, hs5, hs6, hs7⟩ := hs
        refine ⟨⟨hs3.1, hc.1, Int.le_refl _, Int.zero_le_ofNat 1⟩, ?_⟩
        intro s t e1 a1 a2 a3
        conv => whnf
        refine ⟨4, _, _, by decide, wk_of (by (repeat' apply And.intro) <;> first | trivial | rfl) (by (repeat' apply And.intro) <;> first | trivial | rfl) (Nat.le_refl _) (Nat.le_refl _), ⟨4, t, s0, s1, s2, s, s4, s5, s6, s7, t0, t1, t2, t3, by decide, by decide, rfl, ⟨hs0, hs1, hs2, ⟨a1, a2⟩, hs4, hs5, hs6, hs7⟩, ⟨by omega, by omega⟩, ?_, rfl, rfl⟩⟩
        simp only [q64] at hv ⊢
        unfold val8 val at *
        omega
      · rename_i h
        have h := of_decide_eq_false h
        conv => whnf
        obtain rfl : c = 0 := by omega
        refine ⟨2, _, _, by decide, wk_of (by (repeat' apply And.intro) <;> first | trivial | rfl) (by (repeat' apply And.intro) <;> first | trivial | rfl) (Nat.le_refl _) (Nat.le_refl _), ⟨2, _, _, _, _, _, _, _, _, t0, t1, t2, t3, by decide, rfl, hs, by rw [← hT, ← hv, Int.mul_zero, Int.add_zero], rfl, rfl⟩⟩
    · conv => whnf
      split
      · rename_i h
        have h := of_decide_eq_true h
        conv => whnf
        obtain ⟨hs0, hs1, hs2, hs3, hs4, hs5, hs6, hs7⟩ := hs
        refine ⟨⟨hs4.1, hc.1, Int.le_refl _, Int.zero_le_ofNat 1⟩, ?_⟩
        intro s t e1 a1 a2 a3
        conv => whnf
        refine ⟨3, _, _, by decide, wk_of (by (repeat' apply And.intro) <;> first | trivial | rfl) (by (repeat' apply And.intro) <;> first | trivial | rfl) (Nat.le_refl _) (Nat.le_refl _), ⟨5, t, s0, s1, s2, s3, s, s5, s6, s7, t0, t1, t2, t3, by decide, by decide, rfl, ⟨hs0, hs1, hs2, hs3, ⟨a1, a2⟩, hs5, hs6, hs7⟩, ⟨by omega, by omega⟩, ?_, rfl, rfl⟩⟩
        simp only [q64] at hv ⊢
        unfold val8 val at *
        omega
      · rename_i h
        have h := of_decide_eq_false h
        conv => whnf
        obtain rfl : c = 0 := by omega
        refine ⟨2, _, _, by decide, wk_of (by (repeat' apply And.intro) <;> first | trivial | rfl) (by (repeat' apply And.intro) <;> first | trivial | rfl) (Nat.le_refl _) (Nat.le_refl _), ⟨2, _, _, _, _, _, _, _, _, t0, t1, t2, t3, by decide, rfl, hs, by rw [← hT, ← hv, Int.mul_zero, Int.add_zero], rfl, rfl⟩⟩
    · conv => whnf
      split
      · rename_i h
        have h := of_decide_eq_true h
        conv => whnf
        obtain ⟨hs0, hs1, hs2, hs3, hs4, hs5, hs6, hs7⟩ := hs
        refine ⟨⟨hs5.1, hc.1, Int.le_refl _, Int.zero_le_ofNat 1⟩, ?_⟩
        intro s t e1 a1 a2 a3
        conv => whnf
        refine ⟨2, _, _, by decide, wk_of (by (repeat' apply And.intro) <;> first | trivial | rfl) (by (repeat' apply And.intro) <;> first | trivial | rfl) (Nat.le_refl _) (Nat.le_refl _), ⟨6, t, s0, s1, s2, s3, s4, s, s6, s7, t0, t1, t2, t3, by decide, by decide, rfl, ⟨hs0, hs1, hs2, hs3, hs4, ⟨a1, a2⟩, hs6, hs7⟩, ⟨by omega, by omega⟩, ?_, rfl, rfl⟩⟩
        simp only [q64] at hv ⊢
        unfold val8 val at *
        omega
      · rename_i h
        have h := of_decide_eq_false h
        conv => whnf
        obtain rfl : c = 0 := by omega
        refine ⟨2, _, _, by decide, wk_of (by (repeat' apply And.intro) <;> first | trivial | rfl) (by (repeat' apply And.intro) <;> first | trivial | rfl) (Nat.le_refl _) (Nat.le_refl _), ⟨2, _, _, _, _, _, _, _, _, t0, t1, t2, t3, by decide, rfl, hs, by rw [← hT, ← hv, Int.mul_zero, Int.add_zero], rfl, rfl⟩⟩
    · conv => whnf
      split
      · rename_i h
        have h := of_decide_eq_true h
        conv => whnf
        obtain ⟨hs0, hs1, hs2, hs3, hs4, hs5, hs6, hs7⟩ := hs
        refine ⟨⟨hs6.1, hc.1, Int.le_refl _, Int.zero_le_ofNat 1⟩, ?_⟩
        intro s t e1 a1 a2 a3
        conv => whnf
        refine ⟨1, _, _, by decide, wk_of (by (repeat' apply And.intro) <;> first | trivial | rfl) (by (repeat' apply And.intro) <;> first | trivial | rfl) (Nat.le_refl _) (Nat.le_refl _), ⟨7, t, s0, s1, s2, s3, s4, s5, s, s7, t0, t1, t2, t3, by decide, by decide, rfl, ⟨hs0, hs1, hs2, hs3, hs4, hs5, ⟨a1, a2⟩, hs7⟩, ⟨by omega, by omega⟩, ?_, rfl, rfl⟩⟩
        simp only [q64] at hv ⊢
        unfold val8 val at *
        omega
      · rename_i h
        have h := of_decide_eq_false h
        conv => whnf
        obtain rfl : c = 0 := by omega
        refine ⟨2, _, _, by decide, wk_of (by (repeat' apply And.intro) <;> first | trivial | rfl) (by (repeat' apply And.intro) <;> first | trivial | rfl) (Nat.le_refl _) (Nat.le_refl _), ⟨2, _, _, _, _, _, _, _, _, t0, t1, t2, t3, by decide, rfl, hs, by rw [← hT, ← hv, Int.mul_zero, Int.add_zero], rfl, rfl⟩⟩
    · conv => whnf
      split
      · rename_i h
        have h := of_decide_eq_true h
        conv => whnf
        obtain ⟨hs0, hs1, hs2, hs3, hs4, hs5, hs6, hs7⟩ := hs
        refine ⟨⟨hs7.1, hc.1, Int.le_refl _, Int.zero_le_ofNat 1⟩, ?_⟩
        intro s t e1 a1 a2 a3
        conv => whnf
        refine ⟨0, _, _, by decide, wk_of (by (repeat' apply And.intro) <;> first | trivial | rfl) (by (repeat' apply And.intro) <;> first | trivial | rfl) (Nat.le_refl _) (Nat.le_refl _), ⟨8, t, s0, s1, s2, s3, s4, s5, s6, s, t0, t1, t2, t3, by decide, by decide, rfl, ⟨hs0, hs1, hs2, hs3, hs4, hs5, hs6, ⟨a1, a2⟩⟩, ⟨by omega, by omega⟩, ?_, rfl, rfl⟩⟩
        simp only [q64] at hv ⊢
        unfold val8 val at *
        omega
      · rename_i h
        have h := of_decide_eq_false h
        conv => whnf
        obtain rfl : c = 0 := by omega
        refine ⟨2, _, _, by decide, wk_of (by (repeat' apply And.intro) <;> first | trivial | rfl) (by (repeat' apply And.intro) <;> first | trivial | rfl) (Nat.le_refl _) (Nat.le_refl _), ⟨2, _, _, _, _, _, _, _, _, t0, t1, t2, t3, by decide, rfl, hs, by rw [← hT, ← hv, Int.mul_zero, Int.add_zero], rfl, rfl⟩⟩
    · conv => whnf
      obtain rfl : c = 0 := by
        obtain ⟨hs0, hs1, hs2, hs3, hs4, hs5, hs6, hs7⟩ := hs
        simp only [q64] at hv
        unfold val8 val at hv
        omega
      refine ⟨2, _, _, by decide, wk_of (by (repeat' apply And.intro) <;> first | trivial | rfl) (by (repeat' apply And.intro) <;> first | trivial | rfl) (Nat.le_refl _) (Nat.le_refl _), ⟨2, _, _, _, _, _, _, _, _, t0, t1, t2, t3, by decide, rfl, hs, by rw [← hT, ← hv, Int.mul_zero, Int.add_zero], rfl, rfl⟩⟩
  · refine ⟨4, _, _, wk_of (by (repeat' apply And.intro) <;> first | trivial | rfl | exact congrArg (fun x => some (TV.one x)) (congrArg (Sc.int .u64) (c2.trans hq2.symm))) (by (repeat' apply And.intro) <;> first | trivial | rfl) (Nat.le_refl _) (Nat.le_refl _), ⟨4, q2, r0, y0, y1, y2, r4, r5, r6, r7, t0, t1, t2, t3, by decide, by decide, rfl, hI, f2, hE, rfl, rfl⟩⟩

set_option maxHeartbeats 4000000 in
theorem mid2 {D : MD} (hD : D.Ok) {w0 w1 w2 w3 w4 w5 w6 w7 r0 r1 r2 r3 r4 r5 r6 r7 : Int} {t0 t1 t2 t3 : Nat} (hw : In8 w0 w1 w2 w3 w4 w5 w6 w7) (hr : In8 r0 r1 r2 r3 r4 r5 r6 r7) (hE0 : val8 r0 r1 r2 r3 r4 r5 r6 r7 = val w0 w1 w2 w3 + hp w4 w5 w6 w7 2 * D.L) (W0 : World) (Q : Exit → Env → Mem → Prop) :
    swp (GG W0) (lp F_ref03_fold 2) (fun x e1 m1 => match x with
      | .normal => ∃ j e2 m2, j < 4 - 2 ∧ Wk (mem3 D w0 w1 w2 w3 w4 w5 w6 w7 t0 t1 t2 [some ⟨[u r0, u r1, u r2, u r3, u r4, u r5, u r6, u r7], t3, 0, false⟩]).length e1 m1 e2 m2 ∧ MidI D w0 w1 w2 w3 w4 w5 w6 w7 j e2 m2
      | x => Q x e1 m1) ((7, .one (.int .i64 (2 : Nat))) :: (5, .one (.ptr (some (.loc 3 0)))) :: env3) (mem3 D w0 w1 w2 w3 w4 w5 w6 w7 t0 t1 t2 [some ⟨[u r0, u r1, u r2, u r3, u r4, u r5, u r6, u r7], t3, 0, false⟩]) := by
  obtain ⟨hw0, hw1, hw2, hw3, hw4, hw5, hw6, hw7⟩ := hw
  obtain ⟨hr0, hr1, hr2, hr3, hr4, hr5, hr6, hr7⟩ := hr
  have z0 : InU 0 := ⟨by omega, by omega⟩
  conv => whnf
  refine .inl ⟨4, ?_⟩
  conv => whnf
  refine ⟨⟨hw6.1, hw6.2, hD.l0.1, hD.l0.2⟩, ?_⟩
  intro hi lo e0 a1 a2 a3 a4 a5
  conv => whnf
  refine ⟨⟨a3, hr2.1, Int.le_refl _, Int.zero_le_ofNat 1⟩, ?_⟩
  intro x k e1 a6 a7 a8
  conv => whnf
  refine ⟨⟨a6, Int.le_refl _, Int.le_refl _, Int.zero_le_ofNat 1⟩, ?_⟩
  intro y0 l e2 g00 g01 a9
  obtain ⟨c0, d0, f0⟩ := mac e0 a1 a3 a4 a5 hr2 z0 e1 a6 a7 a8 e2 g00 g01 a9
  obtain ⟨q0, hq0⟩ : ∃ q, q = hi + k + l := ⟨_, rfl⟩
  rw [← hq0] at d0 f0
  clear e0 a1 a2 a3 a4 a5 e1 a6 a7 a8 e2 a9
  conv => whnf
  refine ⟨⟨hw6.1, hw6.2, hD.l1.1, hD.l1.2⟩, ?_⟩
  intro hi lo e0 a1 a2 a3 a4 a5
  conv => whnf
  refine ⟨⟨a3, hr3.1, Int.le_refl _, Int.zero_le_ofNat 1⟩, ?_⟩
  intro x k e1 a6 a7 a8
  conv => whnf
  rw [c0]
  rw [← hq0]
  refine ⟨⟨a6, f0.1, Int.le_refl _, Int.zero_le_ofNat 1⟩, ?_⟩
  intro y1 l e2 g10 g11 a9
  obtain ⟨c1, d1, f1⟩ := mac e0 a1 a3 a4 a5 hr3 f0 e1 a6 a7 a8 e2 g10 g11 a9
  obtain ⟨q1, hq1⟩ : ∃ q, q = hi + k + l := ⟨_, rfl⟩
  rw [← hq1] at d1 f1
  clear e0 a1 a2 a3 a4 a5 e1 a6 a7 a8 e2 a9
  conv => whnf
  refine ⟨⟨hw6.1, hw6.2, hD.l2'.1, hD.l2'.2⟩, ?_⟩
  intro hi lo e0 a1 a2 a3 a4 a5
  conv => whnf
  refine ⟨⟨a3, hr4.1, Int.le_refl _, Int.zero_le_ofNat 1⟩, ?_⟩
  intro x k e1 a6 a7 a8
  conv => whnf
  rw [c1]
  rw [← hq1]
  refine ⟨⟨a6, f1.1, Int.le_refl _, Int.zero_le_ofNat 1⟩, ?_⟩
  intro y2 l e2 g20 g21 a9
  obtain ⟨c2, d2, f2⟩ := mac e0 a1 a3 a4 a5 hr4 f1 e1 a6 a7 a8 e2 g20 g21 a9
  obtain ⟨q2, hq2⟩ : ∃ q, q = hi + k + l := ⟨_, rfl⟩
  rw [← hq2] at d2 f2
  clear e0 a1 a2 a3 a4 a5 e1 a6 a7 a8 e2 a9
  conv => whnf
  have hL := mul_L D w6
  have hS := hp_succ D w4 w5 w6 w7
  obtain ⟨T, hT⟩ : ∃ T, T = val w0 w1 w2 w3 + hp w4 w5 w6 w7 3 * D.L := ⟨_, rfl⟩
  have hTb := hp_bound hD ⟨hw0, hw1, hw2, hw3, hw4, hw5, hw6, hw7⟩ (by decide) hT
  have hE : val8 r0 r1 y0 y1 y2 r5 r6 r7 + q64 5 * q2 = T := by
    rw [hT, hS.2.2.2.1, hL]
    clear hT hTb hL hS c2 hq0 hq1 hq2
    generalize w6 * D.l0 = Q0 at *
    generalize w6 * D.l1 = Q1 at *
    generalize w6 * D.l2 = Q2 at *
    generalize hp w4 w5 w6 w7 2 * D.L = G at *
    unfold val8 val at *
    simp only [q64]
    omega
  have hcw : wr .u64 ((_ : Int) % 18446744073709551616 + _) = u q2 := congrArg (Sc.int .u64) (c2.trans hq2.symm)
  have hI : In8 r0 r1 y0 y1 y2 r5 r6 r7 := ⟨hr0, hr1, ⟨g00, g01⟩, ⟨g10, g11⟩, ⟨g20, g21⟩, hr5, hr6, hr7⟩
  clear hL hS d0 d1 d2 c0 c1 hq0 hq1 hE0 g00 g01 g10 g11 g20 g21 f0 f1
  refine .inr (loop_inv (gOk W0) (CarI D w0 w1 w2 w3 w4 w5 w6 w7 T 2) ?_ ?_)
  · intro k e' m' hC
    clear hE hI hcw c2 hq2
    obtain ⟨j, c, s0, s1, s2, s3, s4, s5, s6, s7, t0, t1, t2, t3, hj3, hj8, rfl, hs, hc, hv, rfl, rfl⟩ := hC
    obtain rfl | rfl | rfl | rfl | rfl | rfl : j = 3 ∨ j = 4 ∨ j = 5 ∨ j = 6 ∨ j = 7 ∨ j = 8 := by omega
    · conv => whnf
      split
      · rename_i h
        have h := of_decide_eq_true h
        conv => whnf
        obtain ⟨hs0, hs1, hs2, hs3, hs4, hs5, hs6, hs7⟩ := hs
        refine ⟨⟨hs3.1, hc.1, Int.le_refl _, Int.zero_le_ofNat 1⟩, ?_⟩
        intro s t e1 a1 a2 a3
        conv => whnf
        refine ⟨4, _, _, by decide, wk_of (by (repeat' apply And.intro) <;> first | trivial | rfl) (by (repeat' apply And.intro) <;> first | trivial | rfl) (Nat.le_refl _) (Nat.le_refl _), ⟨4, t, s0, s1, s2, s, s4, s5, s6, s7, t0, t1, t2, t3, by decide, by decide, rfl, ⟨hs0, hs1, hs2, ⟨a1, a2⟩, hs4, hs5, hs6, hs7⟩, ⟨by omega, by omega⟩, ?_, rfl, rfl⟩⟩
        simp only [q64] at hv ⊢
        unfold val8 val at *
        omega
      · rename_i h
        have h := of_decide_eq_false h
        conv => whnf
        obtain rfl : c = 0 := by omega
        refine ⟨1, _, _, by decide, wk_of (by (repeat' apply And.intro) <;> first | trivial | rfl) (by (repeat' apply And.intro) <;> first | trivial | rfl) (Nat.le_refl _) (Nat.le_refl _), ⟨3, _, _, _, _, _, _, _, _, t0, t1, t2, t3, by decide, rfl, hs, by rw [← hT, ← hv, Int.mul_zero, Int.add_zero], rfl, rfl⟩⟩
    · conv => whnf
      split
      · rename_i h
        have h := of_decide_eq_true h
        conv => whnf
        obtain ⟨hs0, hs1, hs2, hs3, hs4, hs5, hs6, hs7⟩ := hs
        refine ⟨⟨hs4.1, hc.1, Int.le_refl _, Int.zero_le_ofNat 1⟩, ?_⟩
        intro s t e1 a1 a2 a3
        conv => whnf
        refine ⟨3, _, _, by decide, wk_of (by (repeat' apply And.intro) <;> first | trivial | rfl) (by (repeat' apply And.intro) <;> first | trivial | rfl) (Nat.le_refl _) (Nat.le_refl _), ⟨5, t, s0, s1, s2, s3, s, s5, s6, s7, t0, t1, t2, t3, by decide, by decide, rfl, ⟨hs0, hs1, hs2, hs3, ⟨a1, a2⟩, hs5, hs6, hs7⟩, ⟨by omega, by omega⟩, ?_, rfl, rfl⟩⟩
        simp only [q64] at hv ⊢
        unfold val8 val at *
        omega
      · rename_i h
        have h := of_decide_eq_false h
        conv => whnf
        obtain rfl : c = 0 := by omega
        refine ⟨1, _, _, by decide, wk_of (by (repeat' apply And.intro) <;> first | trivial | rfl) (by (repeat' apply And.intro) <;> first | trivial | rfl) (Nat.le_refl _) (Nat.le_refl _), ⟨3, _, _, _, _, _, _, _, _, t0, t1, t2, t3, by decide, rfl, hs, by rw [← hT, ← hv, Int.mul_zero, Int.add_zero], rfl, rfl⟩⟩
    · conv => whnf
      split
      · rename_i h
        have h := of_decide_eq_true h
        conv => whnf
        obtain ⟨hs0, hs1, hs2, hs3, hs4, hs5, hs6, hs7⟩ := hs
        refine ⟨⟨hs5.1, hc.1, Int.le_refl _, Int.zero_le_ofNat 1⟩, ?_⟩
        intro s t e1 a1 a2 a3
        conv => whnf
        refine ⟨2, _, _, by decide, wk_of (by (repeat' apply And.intro) <;> first | trivial | rfl) (by (repeat' apply And.intro) <;> first | trivial | rfl) (Nat.le_refl _) (Nat.le_refl _), ⟨6, t, s0, s1, s2, s3, s4, s, s6, s7, t0, t1, t2, t3, by decide, by decide, rfl, ⟨hs0, hs1, hs2, hs3, hs4, ⟨a1, a2⟩, hs6, hs7⟩, ⟨by omega, by omega⟩, ?_, rfl, rfl⟩⟩
        simp only [q64] at hv ⊢
        unfold val8 val at *
        omega
      · rename_i h
        have h := of_decide_eq_false h
        conv => whnf
        obtain rfl : c = 0 := by omega
        refine ⟨1, _, _, by decide, wk_of (by (repeat' apply And.intro) <;> first | trivial | rfl) (by (repeat' apply And.intro) <;> first | trivial | rfl) (Nat.le_refl _) (Nat.le_refl _), ⟨3, _, _, _, _, _, _, _, _, t0, t1, t2, t3, by decide, rfl, hs, by rw [← hT, ← hv, Int.mul_zero, Int.add_zero], rfl, rfl⟩⟩
    · conv => whnf
      split
      · rename_i h
        have h := of_decide_eq_true h
        conv => whnf
        obtain ⟨hs0, hs1, hs2, hs3, hs4, hs5, hs6, hs7⟩ := hs
        refine ⟨⟨hs6.1, hc.1, Int.le_refl _, Int.zero_le_ofNat 1⟩, ?_⟩
        intro s t e1 a1 a2 a3
        conv => whnf
        refine ⟨1, _, _, by decide, wk_of (by (repeat' apply And.intro) <;> first | trivial | rfl) (by (repeat' apply And.intro) <;> first | trivial | rfl) (Nat.le_refl _) (Nat.le_refl _), ⟨7, t, s0, s1, s2, s3, s4, s5, s, s7, t0, t1, t2, t3, by decide, by decide, rfl, ⟨hs0, hs1, hs2, hs3, hs4, hs5, ⟨a1, a2⟩, hs7⟩, ⟨by omega, by omega⟩, ?_, rfl, rfl⟩⟩
        simp only [q64] at hv ⊢
        unfold val8 val at *
        omega
      · rename_i h
        have h := of_decide_eq_false h
        conv => whnf
        obtain rfl : c = 0 := by omega
        refine ⟨1, _, _, by decide, wk_of (by (repeat' apply And.intro) <;> first | trivial | rfl) (by (repeat' apply And.intro) <;> first | trivial | rfl) (Nat.le_refl _) (Nat.le_refl _), ⟨3, _, _, _, _, _, _, _, _, t0, t1, t2, t3, by decide, rfl, hs, by rw [← hT, ← hv, Int.mul_zero, Int.add_zero], rfl, rfl⟩⟩
    · conv => whnf
      split
      · rename_i h
        have h := of_decide_eq_true h
        conv => whnf
        obtain ⟨hs0, hs1, hs2, hs3, hs4, hs5, hs6, hs7⟩ := hs
        refine ⟨⟨hs7.1, hc.1, Int.le_refl _, Int.zero_le_ofNat 1⟩, ?_⟩
        intro s t e1 a1 a2 a3
        conv => whnf
        refine ⟨0, _, _, by decide, wk_of (by (repeat' apply And.intro) <;> first | trivial | rfl) (by (repeat' apply And.intro) <;> first | trivial | rfl) (Nat.le_refl _) (Nat.le_refl _), ⟨8, t, s0, s1, s2, s3, s4, s5, s6, s, t0, t1, t2, t3, by decide, by decide, rfl, ⟨hs0, hs1, hs2, hs3, hs4, hs5, hs6, ⟨a1, a2⟩⟩, ⟨by omega, by omega⟩, ?_, rfl, rfl⟩⟩
        simp only [q64] at hv ⊢
        unfold val8 val at *
        omega
      · rename_i h
        have h := of_decide_eq_false h
        conv => whnf
        obtain rfl : c = 0 := by omega
        refine ⟨1, _, _, by decide, wk_of (by (repeat' apply And.intro) <;> first | trivial | rfl) (by (repeat' apply And.intro) <;> first | trivial | rfl) (Nat.le_refl _) (Nat.le_refl _), ⟨3, _, _, _, _, _, _, _, _, t0, t1, t2, t3, by decide, rfl, hs, by rw [← hT, ← hv, Int.mul_zero, Int.add_zero], rfl, rfl⟩⟩
    · conv => whnf
      obtain rfl : c = 0 := by
        obtain ⟨hs0, hs1, hs2, hs3, hs4, hs5, hs6, hs7⟩ := hs
        simp only [q64] at hv
        unfold val8 val at hv
        omega
      refine ⟨1, _, _, by decide, wk_of (by (repeat' apply And.intro) <;> first | trivial | rfl) (by (repeat' apply And.intro) <;> first | trivial | rfl) (Nat.le_refl _) (Nat.le_refl _), ⟨3, _, _, _, _, _, _, _, _, t0, t1, t2, t3, by decide, rfl, hs, by rw [← hT, ← hv, Int.mul_zero, Int.add_zero], rfl, rfl⟩⟩
  · refine ⟨3, _, _, wk_of (by (repeat' apply And.intro) <;> first | trivial | rfl | exact congrArg (fun x => some (TV.one x)) (congrArg (Sc.int .u64) (c2.trans hq2.symm))) (by (repeat' apply And.intro) <;> first | trivial | rfl) (Nat.le_refl _) (Nat.le_refl _), ⟨5, q2, r0, r1, y0, y1, y2, r5, r6, r7, t0, t1, t2, t3, by decide, by decide, rfl, hI, f2, hE, rfl, rfl⟩⟩

set_option maxHeartbeats 4000000 in
theorem mid3 {D : MD} (hD : D.Ok) {w0 w1 w2 w3 w4 w5 w6 w7 r0 r1 r2 r3 r4 r5 r6 r7 : Int} {t0 t1 t2 t3 : Nat} (hw : In8 w0 w1 w2 w3 w4 w5 w6 w7) (hr : In8 r0 r1 r2 r3 r4 r5 r6 r7) (hE0 : val8 r0 r1 r2 r3 r4 r5 r6 r7 = val w0 w1 w2 w3 + hp w4 w5 w6 w7 3 * D.L) (W0 : World) (Q : Exit → Env → Mem → Prop) :
    swp (GG W0) (lp F_ref03_fold 2) (fun x e1 m1 => match x with
      | .normal => ∃ j e2 m2, j < 4 - 3 ∧ Wk (mem3 D w0 w1 w2 w3 w4 w5 w6 w7 t0 t1 t2 [some ⟨[u r0, u r1, u r2, u r3, u r4, u r5, u r6, u r7], t3, 0, false⟩]).length e1 m1 e2 m2 ∧ MidI D w0 w1 w2 w3 w4 w5 w6 w7 j e2 m2
      | x => Q x e1 m1) ((7, .one (.int .i64 (3 : Nat))) :: (5, .one (.ptr (some (.loc 3 0)))) :: env3) (mem3 D w0 w1 w2 w3 w4 w5 w6 w7 t0 t1 t2 [some ⟨[u r0, u r1, u r2, u r3, u r4, u r5, u r6, u r7], t3, 0, false⟩]) := by
  obtain ⟨hw0, hw1, hw2, hw3, hw4, hw5, hw6, hw7⟩ := hw
  obtain ⟨hr0, hr1, hr2, hr3, hr4, hr5, hr6, hr7⟩ := hr
  have z0 : InU 0 := ⟨by omega, by omega⟩
  conv => whnf
  refine .inl ⟨4, ?_⟩
  conv => whnf
  refine ⟨⟨hw7.1, hw7.2, hD.l0.1, hD.l0.2⟩, ?_⟩
  intro hi lo e0 a1 a2 a3 a4 a5
  conv => whnf
  refine ⟨⟨a3, hr3.1, Int.le_refl _, Int.zero_le_ofNat 1⟩, ?_⟩
  intro x k e1 a6 a7 a8
  conv => whnf
  refine ⟨⟨a6, Int.le_refl _, Int.le_refl _, Int.zero_le_ofNat 1⟩, ?_⟩
  intro y0 l e2 g00 g01 a9
  obtain ⟨c0, d0, f0⟩ := mac e0 a1 a3 a4 a5 hr3 z0 e1 a6 a7 a8 e2 g00 g01 a9
  obtain ⟨q0, hq0⟩ : ∃ q, q = hi + k + l := ⟨_, rfl⟩
  rw [← hq0] at d0 f0
  clear e0 a1 a2 a3 a4 a5 e1 a6 a7 a8 e2 a9
  conv => whnf
  refine ⟨⟨hw7.1, hw7.2, hD.l1.1, hD.l1.2⟩, ?_⟩
  intro hi lo e0 a1 a2 a3 a4 a5
  conv => whnf
  refine ⟨⟨a3, hr4.1, Int.le_refl _, Int.zero_le_ofNat 1⟩, ?_⟩
  intro x k e1 a6 a7 a8
  conv => whnf
  rw [c0]
  rw [← hq0]
  refine ⟨⟨a6, f0.1, Int.le_refl _, Int.zero_le_ofNat 1⟩, ?_⟩
  intro y1 l e2 g10 g11 a9
  obtain ⟨c1, d1, f1⟩ := mac e0 a1 a3 a4 a5 hr4 f0 e1 a6 a7 a8 e2 g10 g11 a9
  obtain ⟨q1, hq1⟩ : ∃ q, q = hi + k + l := ⟨_, rfl⟩
  rw [← hq1] at d1 f1
  clear e0 a1 a2 a3 a4 a5 e1 a6 a7 a8 e2 a9
  conv => whnf
  refine ⟨⟨hw7.1, hw7.2, hD.l2'.1, hD.l2'.2⟩, ?_⟩
  intro hi lo e0 a1 a2 a3 a4 a5
  conv => whnf
  refine ⟨⟨a3, hr5.1, Int.le_refl _, Int.zero_le_ofNat 1⟩, ?_⟩
  intro x k e1 a6 a7 a8
  conv => whnf
  rw [c1]
  rw [← hq1]
  refine ⟨⟨a6, f1.1, Int.le_refl _, Int.zero_le_ofNat 1⟩, ?_⟩
  intro y2 l e2 g20 g21 a9
  obtain ⟨c2, d2, f2⟩ := mac e0 a1 a3 a4 a5 hr5 f1 e1 a6 a7 a8 e2 g20 g21 a9
  obtain ⟨q2, hq2⟩ : ∃ q, q = hi + k + l := ⟨_, rfl⟩
  rw [← hq2] at d2 f2
  clear e0 a1 a2 a3 a4 a5 e1 a6 a7 a8 e2 a9
  conv => whnf
  have hL := mul_L D w7
  have hS := hp_succ D w4 w5 w6 w7
  obtain ⟨T, hT⟩ : ∃ T, T = val w0 w1 w2 w3 + hp w4 w5 w6 w7 4 * D.L := ⟨_, rfl⟩
  have hTb := hp_bound hD ⟨hw0, hw1, hw2, hw3, hw4, hw5, hw6, hw7⟩ (by decide) hT
  have hE : val8 r0 r1 r2 y0 y1 y2 r6 r7 + q64 6 * q2 = T := by
    rw [hT, hS.2.2.2.2, hL]
    clear hT hTb hL hS c2 hq0 hq1 hq2
    generalize w7 * D.l0 = Q0 at *
    generalize w7 * D.l1 = Q1 at *
    generalize w7 * D.l2 = Q2 at *
    generalize hp w4 w5 w6 w7 3 * D.L = G at *
    unfold val8 val at *
    simp only [q64]
    omega
  have hcw : wr .u64 ((_ : Int) % 18446744073709551616 + _) = u q2 := congrArg (Sc.int .u64) (c2.trans hq2.symm)
  have hI : In8 r0 r1 r2 y0 y1 y2 r6 r7 := ⟨hr0, hr1, hr2, ⟨g00, g01⟩, ⟨g10, g11⟩, ⟨g20, g21⟩, hr6, hr7⟩
  clear hL hS d0 d1 d2 c0 c1 hq0 hq1 hE0 g00 g01 g10 g11 g20 g21 f0 f1
  refine .inr (loop_inv (gOk W0) (CarI D w0 w1 w2 w3 w4 w5 w6 w7 T 3) ?_ ?_)
  · intro k e' m' hC
    clear hE hI hcw c2 hq2
    obtain ⟨j, c, s0, s1, s2, s3, s4, s5, s6, s7, t0, t1, t2, t3, hj3, hj8, rfl, hs, hc, hv, rfl, rfl⟩ := hC
    obtain rfl | rfl | rfl | rfl | rfl | rfl : j = 3 ∨ j = 4 ∨ j = 5 ∨ j = 6 ∨ j = 7 ∨ j = 8 := by omega
    · conv => whnf
      split
      · rename_i h
        have h := of_decide_eq_true h
        conv => whnf
        obtain ⟨hs0, hs1, hs2, hs3, hs4, hs5, hs6, hs7⟩ := hs
        refine ⟨⟨hs3.1, hc.1, Int.le_refl _, Int.zero_le_ofNat 1⟩, ?_⟩
        intro s t e1 a1 a2 a3
        conv => whnf
        refine ⟨4, _, _, by decide, wk_of (by (repeat' apply And.intro) <;> first | trivial | rfl) (by (repeat' apply And.intro) <;> first | trivial | rfl) (Nat.le_refl _) (Nat.le_refl _), ⟨4, t, s0, s1, s2, s, s4, s5, s6, s7, t0, t1, t2, t3, by decide, by decide, rfl, ⟨hs0, hs1, hs2, ⟨a1, a2⟩, hs4, hs5, hs6, hs7⟩, ⟨by omega, by omega⟩, ?_, rfl, rfl⟩⟩
        simp only [q64] at hv ⊢
        unfold val8 val at *
        omega
      · rename_i h
        have h := of_decide_eq_false h
        conv => whnf
        obtain rfl : c = 0 := by omega
        refine ⟨0, _, _, by decide, wk_of (by (repeat' apply And.intro) <;> first | trivial | rfl) (by (repeat' apply And.intro) <;> first | trivial | rfl) (Nat.le_refl _) (Nat.le_refl _), ⟨4, _, _, _, _, _, _, _, _, t0, t1, t2, t3, by decide, rfl, hs, by rw [← hT, ← hv, Int.mul_zero, Int.add_zero], rfl, rfl⟩⟩
    · conv => whnf
      split
      · rename_i h
        have h := of_decide_eq_true h
        conv => whnf
        obtain ⟨hs0, hs1, hs2, hs3, hs4, hs5, hs6, hs7⟩ := hs
        refine ⟨⟨hs4.1, hc.1, Int.le_refl _, Int.zero_le_ofNat 1⟩, ?_⟩
        intro s t e1 a1 a2 a3
        conv => whnf
        refine ⟨3, _, _, by decide, wk_of (by (repeat' apply And.intro) <;> first | trivial | rfl) (by (repeat' apply And.intro) <;> first | trivial | rfl) (Nat.le_refl _) (Nat.le_refl _), ⟨5, t, s0, s1, s2, s3, s, s5, s6, s7, t0, t1, t2, t3, by decide, by decide, rfl, ⟨hs0, hs1, hs2, hs3, ⟨a1, a2⟩, hs5, hs6, hs7⟩, ⟨by omega, by omega⟩, ?_, rfl, rfl⟩⟩
        simp only [q64] at hv ⊢
        unfold val8 val at *
        omega
      · rename_i h
        have h := of_decide_eq_false h
        conv => whnf
        obtain rfl : c = 0 := by omega
        refine ⟨0, _, _, by decide, wk_of (by (repeat' apply And.intro) <;> first | trivial | rfl) (by (repeat' apply And.intro) <;> first | trivial | rfl) (Nat.le_refl _) (Nat.le_refl _), ⟨4, _, _, _, _, _, _, _, _, t0, t1, t2, t3, by decide, rfl, hs, by rw [← hT, ← hv, Int.mul_zero, Int.add_zero], rfl, rfl⟩⟩
    · conv => whnf
      split
      · rename_i h
        have h := of_decide_eq_true h
        conv => whnf
        obtain ⟨hs0, hs1, hs2, hs3, hs4, hs5, hs6, hs7⟩ := hs
        refine ⟨⟨hs5.1, hc.1, Int.le_refl _, Int.zero_le_ofNat 1⟩, ?_⟩
        intro s t e1 a1 a2 a3
        conv => whnf
        refine ⟨2, _, _, by decide, wk_of (by (repeat' apply And.intro) <;> first | trivial | rfl) (by (repeat' apply And.intro) <;> first | trivial | rfl) (Nat.le_refl _) (Nat.le_refl _), ⟨6, t, s0, s1, s2, s3, s4, s, s6, s7, t0, t1, t2, t3, by decide, by decide, rfl, ⟨hs0, hs1, hs2, hs3, hs4, ⟨a1, a2⟩, hs6, hs7⟩, ⟨by omega, by omega⟩, ?_, rfl, rfl⟩⟩
        simp only [q64] at hv ⊢
        unfold val8 val at *
        omega
      · rename_i h
        have h := of_decide_eq_false h
        conv => whnf
        obtain rfl : c = 0 := by omega
        refine ⟨0, _, _, by decide, wk_of (by (repeat' apply And.intro) <;> first | trivial | rfl) (by (repeat' apply And.intro) <;> first | trivial | rfl) (Nat.le_refl _) (Nat.le_refl _), ⟨4, _, _, _, _, _, _, _, _, t0, t1, t2, t3, by decide, rfl, hs, by rw [← hT, ← hv, Int.mul_zero, Int.add_zero], rfl, rfl⟩⟩
    · conv => whnf
      split
      · rename_i h
        have h := of_decide_eq_true h
        conv => whnf
        obtain ⟨hs0, hs1, hs2, hs3, hs4, hs5, hs6, hs7⟩ := hs
        refine ⟨⟨hs6.1, hc.1, Int.le_refl _, Int.zero_le_ofNat 1⟩, ?_⟩
        intro s t e1 a1 a2 a3
        conv => whnf
        refine ⟨1, _, _, by decide, wk_of (by (repeat' apply And.intro) <;> first | trivial | rfl) (by (repeat' apply And.intro) <;> first | trivial | rfl) (Nat.le_refl _) (Nat.le_refl _), ⟨7, t, s0, s1, s2, s3, s4, s5, s, s7, t0, t1, t2, t3, by decide, by decide, rfl, ⟨hs0, hs1, hs2, hs3, hs4, hs5, ⟨a1, a2⟩, hs7⟩, ⟨by omega, by omega⟩, ?_, rfl, rfl⟩⟩
        simp only [q64] at hv ⊢
        unfold val8 val at *
        omega
      · rename_i h
        have h := of_decide_eq_false h
        conv => whnf
        obtain rfl : c = 0 := by omega
        refine ⟨0, _, _, by decide, wk_of (by (repeat' apply And.intro) <;> first | trivial | rfl) (by (repeat' apply And.intro) <;> first | trivial | rfl) (Nat.le_refl _) (Nat.le_refl _), ⟨4, _, _, _, _, _, _, _, _, t0, t1, t2, t3, by decide, rfl, hs, by rw [← hT, ← hv, Int.mul_zero, Int.add_zero], rfl, rfl⟩⟩
    · conv => whnf
      split
      · rename_i h
        have h := of_decide_eq_true h
        conv => whnf
        obtain ⟨hs0, hs1, hs2, hs3, hs4, hs5, hs6, hs7⟩ := hs
        refine ⟨⟨hs7.1, hc.1, Int.le_refl _, Int.zero_le_ofNat 1⟩, ?_⟩
        intro s t e1 a1 a2 a3
        conv => whnf
        refine ⟨0, _, _, by decide, wk_of (by (repeat' apply And.intro) <;> first | trivial | rfl) (by (repeat' apply And.intro) <;> first | trivial | rfl) (Nat.le_refl _) (Nat.le_refl _), ⟨8, t, s0, s1, s2, s3, s4, s5, s6, s, t0, t1, t2, t3, by decide, by decide, rfl, ⟨hs0, hs1, hs2, hs3, hs4, hs5, hs6, ⟨a1, a2⟩⟩, ⟨by omega, by omega⟩, ?_, rfl, rfl⟩⟩
        simp only [q64] at hv ⊢
        unfold val8 val at *
        omega
      · rename_i h
        have h := of_decide_eq_false h
        conv => whnf
        obtain rfl : c = 0 := by omega
        refine ⟨0, _, _, by decide, wk_of (by (repeat' apply And.intro) <;> first | trivial | rfl) (by (repeat' apply And.intro) <;> first | trivial | rfl) (Nat.le_refl _) (Nat.le_refl _), ⟨4, _, _, _, _, _, _, _, _, t0, t1, t2, t3, by decide, rfl, hs, by rw [← hT, ← hv, Int.mul_zero, Int.add_zero], rfl, rfl⟩⟩
    · conv => whnf
      obtain rfl : c = 0 := by
        obtain ⟨hs0, hs1, hs2, hs3, hs4, hs5, hs6, hs7⟩ := hs
        simp only [q64] at hv
        unfold val8 val at hv
        omega
      refine ⟨0, _, _, by decide, wk_of (by (repeat' apply And.intro) <;> first | trivial | rfl) (by (repeat' apply And.intro) <;> first | trivial | rfl) (Nat.le_refl _) (Nat.le_refl _), ⟨4, _, _, _, _, _, _, _, _, t0, t1, t2, t3, by decide, rfl, hs, by rw [← hT, ← hv, Int.mul_zero, Int.add_zero], rfl, rfl⟩⟩
  · refine ⟨2, _, _, wk_of (by (repeat' apply And.intro) <;> first | trivial | rfl | exact congrArg (fun x => some (TV.one x)) (congrArg (Sc.int .u64) (c2.trans hq2.symm))) (by (repeat' apply And.intro) <;> first | trivial | rfl) (Nat.le_refl _) (Nat.le_refl _), ⟨6, q2, r0, r1, r2, y0, y1, y2, r6, r7, t0, t1, t2, t3, by decide, by decide, rfl, hI, f2, hE, rfl, rfl⟩⟩

theorem fold_next {D : MD} (hD : D.Ok) {w0 w1 w2 w3 w4 w5 w6 w7 r0 r1 r2 r3 r4 r5 r6 r7 : Int} (hw : In8 w0 w1 w2 w3 w4 w5 w6 w7) (_ : In8 r0 r1 r2 r3 r4 r5 r6 r7) {k : Nat} (hk1 : 1 ≤ k) (hk5 : k ≤ 5) (hb : val8 w0 w1 w2 w3 w4 w5 w6 w7 < foldB k) (hh : 0 < val w4 w5 w6 w7)
    (hE : val8 r0 r1 r2 r3 r4 r5 r6 r7 = val w0 w1 w2 w3 + hp w4 w5 w6 w7 4 * D.L) : 2 ≤ k ∧ val8 r0 r1 r2 r3 r4 r5 r6 r7 < foldB (k - 1) ∧ val8 r0 r1 r2 r3 r4 r5 r6 r7 % D.M = val8 w0 w1 w2 w3 w4 w5 w6 w7 % D.M := by
  have hL := hD.L
  have hs := hD.sum
  have hlo : 0 ≤ val w0 w1 w2 w3 ∧ val w0 w1 w2 w3 < 115792089237316195423570985008687907853269984665640564039457584007913129639936 := by
    obtain ⟨h0, h1, h2, h3, _⟩ := hw
    unfold val
    exact ⟨by omega, by omega⟩
  have e : hp w4 w5 w6 w7 4 = val w4 w5 w6 w7 := rfl
  rw [e] at hE
  have hhi : val w4 w5 w6 w7 < 115792089237316195423570985008687907853269984665640564039457584007913129639936 := by
    obtain ⟨_, _, _, _, h0, h1, h2, h3⟩ := hw
    unfold val
    omega
  rw [hE]
  clear hE e hw
  unfold val8 at *
  generalize val w4 w5 w6 w7 = h at *
  generalize val w0 w1 w2 w3 = lo at *
  have hm := Int.mul_le_mul_of_nonneg_left (Int.le_of_lt hL.2) (Int.le_of_lt hh)
  refine ⟨?_, ?_, ?_⟩
  · obtain rfl | hk : k = 1 ∨ 2 ≤ k := by omega
    · simp only [foldB] at hb
      omega
    · exact hk
  · obtain rfl | rfl | rfl | rfl | rfl : k = 1 ∨ k = 2 ∨ k = 3 ∨ k = 4 ∨ k = 5 := by omega
    all_goals simp only [foldB] at hb ⊢
    all_goals omega
  · have hx : h * D.L = 115792089237316195423570985008687907853269984665640564039457584007913129639936 * h - D.M * h := by
      rw [show D.L = 115792089237316195423570985008687907853269984665640564039457584007913129639936 - D.M by omega, Int.mul_sub, Int.mul_comm h, Int.mul_comm h]
    have : lo + h * D.L = lo + 115792089237316195423570985008687907853269984665640564039457584007913129639936 * h + D.M * (-h) := by
      rw [hx, Int.mul_neg]
      omega
    rw [this, Int.add_mul_emod_self_left]

theorem or4 {a b c d : Int} (ha : InU a) (hb : InU b) (hc : InU c) (hd : InU d) : decide (or2 (or2 (or2 a b) c) d > 0) = decide (0 < val a b c d) := by
  have h1 := or_u ha hb
  have h2 := or_u h1.2.1 hc
  have h3 := or_u h2.2.1 hd
  have e1 := h1.2.2
  have e2 := h2.2.2
  have e3 := h3.2.2
  have i3 := h3.2.1
  apply decide_eq_decide.2
  clear h1 h2 h3
  generalize or2 (or2 (or2 a b) c) d = z at *
  rw [e2, e1] at e3
  unfold val
  omega

set_option maxHeartbeats 4000000 in
theorem refFold_fn {D : MD} (hD : D.Ok) {w0 w1 w2 w3 w4 w5 w6 w7 : Int} (hw : In8 w0 w1 w2 w3 w4 w5 w6 w7) : Fn PG f_ref03_fold [D.tv, .agg [u w0, u w1, u w2, u w3, u w4, u w5, u w6, u w7]] (W (val8 w0 w1 w2 w3 w4 w5 w6 w7 % D.M)) := by
  obtain ⟨V, hV⟩ : ∃ V, V = val8 w0 w1 w2 w3 w4 w5 w6 w7 := ⟨_, rfl⟩
  rw [← hV]
  have z0 : InU 0 := ⟨by omega, by omega⟩
  refine fn_go h_ref03_fold rfl (by kernel_rfl) (fun _ => by kernel_rfl) rfl rfl fun W0 => ?_
  conv => whnf
  refine .inr (loop_inv (gOk W0) (FoldI D V) ?_ ?_)
  · clear hw hV
    intro k e' m' hI
    obtain ⟨w0, w1, w2, w3, w4, w5, w6, w7, t0, t1, t2, hw, hk1, hk5, hmod, hbnd, rfl, rfl⟩ := hI
    obtain ⟨hw0, hw1, hw2, hw3, hw4, hw5, hw6, hw7⟩ := hw
    conv => whnf
    rw [(or_u hw4 hw5).1, (or_u (or_u hw4 hw5).2.1 hw6).1, (or_u (or_u (or_u hw4 hw5).2.1 hw6).2.1 hw7).1, or4 hw4 hw5 hw6 hw7]
    split
    · rename_i hh
      have hh := of_decide_eq_true hh
      conv => whnf
      refine .inl ⟨5, ?_⟩
      conv => whnf
      refine .inr (loop_inv (gOk W0) (MidI D w0 w1 w2 w3 w4 w5 w6 w7) ?_ ?_)
      · intro k2 e' m' hI
        obtain ⟨i, r0, r1, r2, r3, r4, r5, r6, r7, t0, t1, t2, t3, hi4, rfl, hr, hE0, rfl, rfl⟩ := hI
        obtain rfl | rfl | rfl | rfl | rfl : i = 0 ∨ i = 1 ∨ i = 2 ∨ i = 3 ∨ i = 4 := by omega
        · exact mid0 hD ⟨hw0, hw1, hw2, hw3, hw4, hw5, hw6, hw7⟩ hr hE0 W0 _
        · exact mid1 hD ⟨hw0, hw1, hw2, hw3, hw4, hw5, hw6, hw7⟩ hr hE0 W0 _
        · exact mid2 hD ⟨hw0, hw1, hw2, hw3, hw4, hw5, hw6, hw7⟩ hr hE0 W0 _
        · exact mid3 hD ⟨hw0, hw1, hw2, hw3, hw4, hw5, hw6, hw7⟩ hr hE0 W0 _
        · conv => whnf
          have hn := fold_next hD ⟨hw0, hw1, hw2, hw3, hw4, hw5, hw6, hw7⟩ hr hk1 hk5 hbnd hh hE0
          refine ⟨k - 1, _, _, by omega, wk_of (by (repeat' apply And.intro) <;> first | trivial | rfl) (by (repeat' apply And.intro) <;> first | trivial | rfl) (by exact Nat.le_succ 3) (by exact Nat.le_refl 3), ⟨_, _, _, _, _, _, _, _, t0, t1, t2, hr, by omega, by omega, hn.2.2.trans hmod, hn.2.1, rfl, rfl⟩⟩
      · refine ⟨4, _, _, wk_of (by (repeat' apply And.intro) <;> first | trivial | rfl) (by (repeat' apply And.intro) <;> first | trivial | rfl) (Nat.le_refl _) (Nat.le_refl _), ⟨0, w0, w1, w2, w3, 0, 0, 0, 0, _, _, _, _, by decide, by decide, ⟨hw0, hw1, hw2, hw3, z0, z0, z0, z0⟩, ?_, rfl, rfl⟩⟩
        rw [(hp_succ D w4 w5 w6 w7).1]
        unfold val8
        show _ + _ * 0 = _
        omega
    · rename_i hh
      have hh := of_decide_eq_false hh
      conv => whnf
      have e0 : val8 w0 w1 w2 w3 w4 w5 w6 w7 = val w0 w1 w2 w3 := by unfold val8 val at *; omega
      have hN := refNorm_fn hD (x := val w0 w1 w2 w3) ⟨by unfold val; omega, by unfold val; omega⟩
      rw [← e0, hmod, e0] at hN
      unfold W at hN
      rw [words_val hw0 hw1 hw2 hw3] at hN
      refine ⟨_, hN.2 _ _, rfl, ?_⟩
      conv => whnf
      rfl
  · refine ⟨5, _, _, wk_of (by (repeat' apply And.intro) <;> first | trivial | rfl) (by (repeat' apply And.intro) <;> first | trivial | rfl) (Nat.le_refl _) (Nat.le_refl _), ⟨w0, w1, w2, w3, w4, w5, w6, w7, _, _, _, hw, by decide, by decide, by rw [hV], ?_, rfl, rfl⟩⟩
    obtain ⟨hw0, hw1, hw2, hw3, hw4, hw5, hw6, hw7⟩ := hw
    simp only [foldB]
    unfold val8 val
    omega

end Go.Ev

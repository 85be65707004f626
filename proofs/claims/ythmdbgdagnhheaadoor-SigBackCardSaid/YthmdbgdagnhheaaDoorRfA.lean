import Derived.Test.YthmdbgdagnhheaaDoorFeA
import Derived.Test.YthmdbgdagnhheaaDoorWq

namespace Go.Ev

structure MD where
 m0 : Int
 m1 : Int
 m2 : Int
 m3 : Int
 l0 : Int
 l1 : Int
 l2 : Int

def MD.M (D : MD) : Int := val D.m0 D.m1 D.m2 D.m3
def MD.L (D : MD) : Int := D.l0 + 18446744073709551616 * D.l1 + 340282366920938463463374607431768211456 * D.l2
def MD.tv (D : MD) : TV := .agg [u D.m0, u D.m1, u D.m2, u D.m3, u D.l0, u D.l1, u D.l2]

structure MD.Ok (D : MD) : Prop where
 m0 : InU D.m0
 m1 : InU D.m1
 m2 : InU D.m2
 m3 : InU D.m3
 l0 : InU D.l0
 l1 : InU D.l1
 l2 : D.l2 = 0 ∨ D.l2 = 1
 sum : D.M + D.L = 115792089237316195423570985008687907853269984665640564039457584007913129639936

def mdP : MD := ⟨18446744069414583343, 18446744073709551615, 18446744073709551615, 18446744073709551615, 4294968273, 0, 0⟩
def mdN : MD := ⟨13822214165235122497, 13451932020343611451, 18446744073709551614, 18446744073709551615, 4624529908474429119, 4994812053365940164, 1⟩

theorem mdP_ok : mdP.Ok := ⟨by unfold mdP; decide, by unfold mdP; decide, by unfold mdP; decide, by unfold mdP; decide, by unfold mdP; decide, by unfold mdP; decide, .inl rfl, by decide⟩
theorem mdN_ok : mdN.Ok := ⟨by unfold mdN; decide, by unfold mdN; decide, by unfold mdN; decide, by unfold mdN; decide, by unfold mdN; decide, by unfold mdN; decide, .inr rfl, by decide⟩
theorem mdP_M : mdP.M = pp := by decide

def nn : Int := 115792089237316195423570985008687907852837564279074904382605163141518161494337
theorem mdN_M : mdN.M = nn := by decide

theorem MD.Ok.inW {D : MD} (h : D.Ok) : InW D.M := by
 have := h.m0; have := h.m1; have := h.m2; have := h.m3
 unfold MD.M val
 exact ⟨by omega, by omega⟩

theorem MD.Ok.words {D : MD} (h : D.Ok) : Ev.words D.M = [u D.m0, u D.m1, u D.m2, u D.m3] := words_val h.m0 h.m1 h.m2 h.m3

theorem MD.Ok.big {D : MD} (h : D.Ok) : 57896044618658097711785492504343953926634992332820282019728792003956564819968 < D.M := by
 have h1 := h.sum
 have := h.l0; have := h.l1
 have h2 := h.l2
 unfold MD.L at h1
 omega

end Go.Ev

namespace Go.Ev

def or2 (a b : Int) : Int := (a.toNat ||| b.toNat : Nat)

theorem or_u {a b : Int} (ha : InU a) (hb : InU b) : (IntKind.u64).wrap ((BitVec.ofInt (IntKind.u64).bits a ||| BitVec.ofInt (IntKind.u64).bits b).toNat : Int) = or2 a b ∧ InU (or2 a b) ∧ (or2 a b = 0 ↔ a = 0 ∧ b = 0) := by
 obtain ⟨n, rfl⟩ := Int.eq_ofNat_of_zero_le ha.1
 obtain ⟨m, rfl⟩ := Int.eq_ofNat_of_zero_le hb.1
 have hn : n < 2 ^ 64 := by have := ha.2; omega
 have hm : m < 2 ^ 64 := by have := hb.2; omega
 have hlt : n ||| m < 2 ^ 64 := Nat.or_lt_two_pow hn hm
 have e : (BitVec.ofInt (IntKind.u64).bits (n : Int) ||| BitVec.ofInt (IntKind.u64).bits (m : Int)).toNat = n ||| m := by
  show (BitVec.ofInt 64 (n : Int) ||| BitVec.ofInt 64 (m : Int)).toNat = n ||| m
  rw [BitVec.toNat_or, BitVec.ofInt_natCast, BitVec.ofInt_natCast, BitVec.toNat_ofNat, BitVec.toNat_ofNat, Nat.mod_eq_of_lt hn, Nat.mod_eq_of_lt hm]
 rw [e]
 refine ⟨?_, ⟨by unfold or2; simp, by unfold or2; simp; omega⟩, ?_⟩
 ·show ((n ||| m : Nat) : Int) % 18446744073709551616 = _
  unfold or2
  simp only [Int.toNat_natCast]
  omega
 ·unfold or2
  simp only [Int.toNat_natCast, Int.natCast_eq_zero, Nat.or_eq_zero_iff]
end Go.Ev

namespace Go.Ev

def val8 (w0 w1 w2 w3 w4 w5 w6 w7 : Int) : Int := val w0 w1 w2 w3 + 115792089237316195423570985008687907853269984665640564039457584007913129639936 * val w4 w5 w6 w7

def dcells (D : MD) : List Sc := [u D.m0, u D.m1, u D.m2, u D.m3, u D.l0, u D.l1, u D.l2]

def foldB : Nat → Int
 | 0 => 0
 | 1 => 21778071482940061661655974875633165533184
 | 2 => 115792089237316195423570985008687907864159020407110594870285571445729712406528
 | 3 => 1852673427797059126777135760139006525652319754650249024631321344126610074238976
 | 4 => 157608024785577916849116160400574455220318957081861786671793173616982887085988842445657065019539662563226511961227264
 | _ => 13407807929942597099574024998205846127479365820592393377723561443721764030073546976801874298166903427690031858186486050853753882811946569946433649006084096

def hp (w4 w5 w6 w7 : Int) : Nat → Int
 | 0 => 0
 | 1 => w4
 | 2 => w4 + 18446744073709551616 * w5
 | 3 => w4 + 18446744073709551616 * w5 + 340282366920938463463374607431768211456 * w6
 | _ => val w4 w5 w6 w7

def q64 : Nat → Int
 | 0 => 1
 | 1 => 18446744073709551616
 | 2 => 340282366920938463463374607431768211456
 | 3 => 6277101735386680763835789423207666416102355444464034512896
 | 4 => 115792089237316195423570985008687907853269984665640564039457584007913129639936
 | 5 => 2135987035920910082395021706169552114602704522356652769947041607822219725780640550022962086936576
 | 6 => 39402006196394479212279040100143613805079739270465446667948293404245721771497210611414266254884915640806627990306816
 | 7 => 726838724295606890549323807888004534353641360687318060281490199180639288113397923326191050713763565560762521606266177933534601628614656
 | _ => 13407807929942597099574024998205846127479365820592393377723561443721764030073546976801874298166903427690031858186486050853753882811946569946433649006084096

abbrev In8 (w0 w1 w2 w3 w4 w5 w6 w7 : Int) : Prop := InU w0 ∧ InU w1 ∧ InU w2 ∧ InU w3 ∧ InU w4 ∧ InU w5 ∧ InU w6 ∧ InU w7

def env3 : Env := [(4, .one (.ptr (some (.loc 2 0)))), (3, .one (.ptr (some (.loc 1 0)))), (2, .one (.ptr (some (.loc 0 0))))]
def mem3 (D : MD) (w0 w1 w2 w3 w4 w5 w6 w7 : Int) (t0 t1 t2 : Nat) (m : Mem) : Mem := some ⟨dcells D, t0, 0, false⟩ :: some ⟨[u w0, u w1, u w2, u w3, u w4, u w5, u w6, u w7], t1, 0, false⟩ :: some ⟨[u 0, u 0, u 0, u 0], t2, 0, false⟩ :: m

def FoldI (D : MD) (V : Int) (k : Nat) (e : Env) (m : Mem) : Prop :=
 ∃ (w0 w1 w2 w3 w4 w5 w6 w7 : Int) (t0 t1 t2 : Nat), In8 w0 w1 w2 w3 w4 w5 w6 w7 ∧ 1 ≤ k ∧ k ≤ 5 ∧ val8 w0 w1 w2 w3 w4 w5 w6 w7 % D.M = V % D.M ∧ val8 w0 w1 w2 w3 w4 w5 w6 w7 < foldB k ∧ e = env3 ∧ m = mem3 D w0 w1 w2 w3 w4 w5 w6 w7 t0 t1 t2 []

def MidI (D : MD) (w0 w1 w2 w3 w4 w5 w6 w7 : Int) (k : Nat) (e : Env) (m : Mem) : Prop :=
 ∃ (i : Nat) (r0 r1 r2 r3 r4 r5 r6 r7 : Int) (t0 t1 t2 t3 : Nat), i ≤ 4 ∧ k = 4 - i ∧ In8 r0 r1 r2 r3 r4 r5 r6 r7 ∧ val8 r0 r1 r2 r3 r4 r5 r6 r7 = val w0 w1 w2 w3 + hp w4 w5 w6 w7 i * D.L ∧
  e = (7, .one (.int .i64 i)) :: (5, .one (.ptr (some (.loc 3 0)))) :: env3 ∧ m = mem3 D w0 w1 w2 w3 w4 w5 w6 w7 t0 t1 t2 [some ⟨[u r0, u r1, u r2, u r3, u r4, u r5, u r6, u r7], t3, 0, false⟩]

def CarI (D : MD) (w0 w1 w2 w3 w4 w5 w6 w7 : Int) (T : Int) (i : Nat) (k : Nat) (e : Env) (m : Mem) : Prop :=
 ∃ (j : Nat) (c : Int) (r0 r1 r2 r3 r4 r5 r6 r7 : Int) (t0 t1 t2 t3 : Nat), 3 ≤ j ∧ j ≤ 8 ∧ k = 8 - j ∧ In8 r0 r1 r2 r3 r4 r5 r6 r7 ∧ InU c ∧ val8 r0 r1 r2 r3 r4 r5 r6 r7 + q64 j * c = T ∧
  e = (16, .one (.int .i64 j)) :: (8, .one (u c)) :: (7, .one (.int .i64 i)) :: (5, .one (.ptr (some (.loc 3 0)))) :: env3 ∧ m = mem3 D w0 w1 w2 w3 w4 w5 w6 w7 t0 t1 t2 [some ⟨[u r0, u r1, u r2, u r3, u r4, u r5, u r6, u r7], t3, 0, false⟩]

theorem MD.Ok.l2' {D : MD} (h : D.Ok) : InU D.l2 := by
 have := h.l2
 exact ⟨by omega, by omega⟩

theorem MD.Ok.L {D : MD} (h : D.Ok) : 0 ≤ D.L ∧ D.L < 680564733841876926926749214863536422912 := by
 have := h.l0; have := h.l1; have := h.l2
 unfold MD.L
 exact ⟨by omega, by omega⟩

theorem mul_L (D : MD) (w : Int) : w * D.L = w * D.l0 + 18446744073709551616 * (w * D.l1) + 340282366920938463463374607431768211456 * (w * D.l2) := by
 unfold MD.L
 rw [Int.mul_add, Int.mul_add, Int.mul_left_comm, Int.mul_left_comm w]

theorem hp_succ (D : MD) (w4 w5 w6 w7 : Int) : hp w4 w5 w6 w7 0 * D.L = 0 ∧ hp w4 w5 w6 w7 1 * D.L = hp w4 w5 w6 w7 0 * D.L + w4 * D.L ∧ hp w4 w5 w6 w7 2 * D.L = hp w4 w5 w6 w7 1 * D.L + 18446744073709551616 * (w5 * D.L) ∧
  hp w4 w5 w6 w7 3 * D.L = hp w4 w5 w6 w7 2 * D.L + 340282366920938463463374607431768211456 * (w6 * D.L) ∧ hp w4 w5 w6 w7 4 * D.L = hp w4 w5 w6 w7 3 * D.L + 6277101735386680763835789423207666416102355444464034512896 * (w7 * D.L) := by
 unfold hp val
 simp only [Int.add_mul, Int.mul_assoc, Int.zero_mul]
 refine ⟨trivial, by omega, trivial, trivial, trivial⟩

theorem hp_bound {D : MD} (hD : D.Ok) {w0 w1 w2 w3 w4 w5 w6 w7 : Int} (hw : In8 w0 w1 w2 w3 w4 w5 w6 w7) {T : Int} {i : Nat} (hi : i ≤ 4) (h : T = val w0 w1 w2 w3 + hp w4 w5 w6 w7 i * D.L) : T < 13407807929942597099574024998205846127479365820592393377723561443721764030073546976801874298166903427690031858186486050853753882811946569946433649006084096 := by
 obtain ⟨h0, h1, h2, h3, h4, h5, h6, h7⟩ := hw
 have hL := hD.L
 have a : 0 ≤ hp w4 w5 w6 w7 i ∧ hp w4 w5 w6 w7 i < 115792089237316195423570985008687907853269984665640564039457584007913129639936 := by
  obtain rfl | rfl | rfl | rfl | rfl : i = 0 ∨ i = 1 ∨ i = 2 ∨ i = 3 ∨ i = 4 := by omega
  all_goals simp only [hp, val]
  all_goals exact ⟨by omega, by omega⟩
 have := Int.mul_le_mul_of_nonneg_left (Int.le_of_lt hL.2) a.1
 have : val w0 w1 w2 w3 < 115792089237316195423570985008687907853269984665640564039457584007913129639936 := by unfold val; omega
 omega

def loopsOf : Code → List Code
 | .seq a b => loopsOf a ++ loopsOf b
 | .cond _ a b => loopsOf a ++ loopsOf b
 | .block _ b => loopsOf b
 | .loop b => b :: loopsOf b
 | _ => []

def lp (f : Func) (n : Nat) : Code := match (loopsOf (bodyOf f))[n]? with | some c => c | none => .skip

theorem fold_next {D : MD} (hD : D.Ok) {w0 w1 w2 w3 w4 w5 w6 w7 r0 r1 r2 r3 r4 r5 r6 r7 : Int} (hw : In8 w0 w1 w2 w3 w4 w5 w6 w7) (_ : In8 r0 r1 r2 r3 r4 r5 r6 r7) {k : Nat} (hk1 : 1 ≤ k) (hk5 : k ≤ 5) (hb : val8 w0 w1 w2 w3 w4 w5 w6 w7 < foldB k) (hh : 0 < val w4 w5 w6 w7)
  (hE : val8 r0 r1 r2 r3 r4 r5 r6 r7 = val w0 w1 w2 w3 + hp w4 w5 w6 w7 4 * D.L) : 2 ≤ k ∧ val8 r0 r1 r2 r3 r4 r5 r6 r7 < foldB (k - 1) ∧ val8 r0 r1 r2 r3 r4 r5 r6 r7 % D.M = val8 w0 w1 w2 w3 w4 w5 w6 w7 % D.M := by
 have hL := hD.L
 have hs := hD.sum
 have hlo : 0 ≤ val w0 w1 w2 w3 ∧ val w0 w1 w2 w3 < 115792089237316195423570985008687907853269984665640564039457584007913129639936 := by
  obtain ⟨h0, h1, h2, h3, _⟩ := hw
  unfold val
  exact ⟨by omega, by omega⟩
 have e : hp w4 w5 w6 w7 4 = val w4 w5 w6 w7 := rfl
 rw [e] at hE
 have hhi : val w4 w5 w6 w7 < 115792089237316195423570985008687907853269984665640564039457584007913129639936 := by
  obtain ⟨_, _, _, _, h0, h1, h2, h3⟩ := hw
  unfold val
  omega
 rw [hE]
 clear hE e hw
 unfold val8 at *
 generalize val w4 w5 w6 w7 = h at *
 generalize val w0 w1 w2 w3 = lo at *
 have hm := Int.mul_le_mul_of_nonneg_left (Int.le_of_lt hL.2) (Int.le_of_lt hh)
 refine ⟨?_, ?_, ?_⟩
 ·obtain rfl | hk : k = 1 ∨ 2 ≤ k := by omega
  ·simp only [foldB] at hb
   omega
  ·exact hk
 ·obtain rfl | rfl | rfl | rfl | rfl : k = 1 ∨ k = 2 ∨ k = 3 ∨ k = 4 ∨ k = 5 := by omega
  all_goals simp only [foldB] at hb ⊢
  all_goals omega
 ·have hx : h * D.L = 115792089237316195423570985008687907853269984665640564039457584007913129639936 * h - D.M * h := by
   rw [show D.L = 115792089237316195423570985008687907853269984665640564039457584007913129639936 - D.M by omega, Int.mul_sub, Int.mul_comm h, Int.mul_comm h]
  have : lo + h * D.L = lo + 115792089237316195423570985008687907853269984665640564039457584007913129639936 * h + D.M * (-h) := by
   rw [hx, Int.mul_neg]
   omega
  rw [this, Int.add_mul_emod_self_left]

theorem or4 {a b c d : Int} (ha : InU a) (hb : InU b) (hc : InU c) (hd : InU d) : decide (or2 (or2 (or2 a b) c) d > 0) = decide (0 < val a b c d) := by
 have h1 := or_u ha hb
 have h2 := or_u h1.2.1 hc
 have h3 := or_u h2.2.1 hd
 have e1 := h1.2.2
 have e2 := h2.2.2
 have e3 := h3.2.2
 have i3 := h3.2.1
 apply decide_eq_decide.2
 clear h1 h2 h3
 generalize or2 (or2 (or2 a b) c) d = z at *
 rw [e2, e1] at e3
 unfold val
 omega

end Go.Ev

namespace Go.Ev

theorem MD.Ok.mod {D : MD} (hD : D.Ok) (x : Int) : InW (x % D.M) := by
 have hM := hD.inW
 have hb := hD.big
 have hr : 0 ≤ x % D.M ∧ x % D.M < D.M := ⟨Int.emod_nonneg _ (by omega), Int.emod_lt_of_pos _ (by omega)⟩
 exact ⟨by omega, by omega⟩

theorem mulrow {w0 w1 w2 w3 a b0 b1 b2 b3 y0 y1 y2 y3 q0 q1 q2 q3 : Int} (d0 : y0 + 18446744073709551616 * q0 = w0 + 0 + a * b0) (d1 : y1 + 18446744073709551616 * q1 = w1 + q0 + a * b1) (d2 : y2 + 18446744073709551616 * q2 = w2 + q1 + a * b2) (d3 : y3 + 18446744073709551616 * q3 = w3 + q2 + a * b3) :
  val y0 y1 y2 y3 + 115792089237316195423570985008687907853269984665640564039457584007913129639936 * q3 = val w0 w1 w2 w3 + a * val b0 b1 b2 b3 := by
 have e : a * val b0 b1 b2 b3 = a * b0 + 18446744073709551616 * (a * b1) + 340282366920938463463374607431768211456 * (a * b2) + 6277101735386680763835789423207666416102355444464034512896 * (a * b3) := by
  rw [Int.mul_comm a, val_mul, Int.mul_comm b0, Int.mul_comm b1, Int.mul_comm b2, Int.mul_comm b3]
 rw [e]
 generalize a * b0 = P0 at *
 generalize a * b1 = P1 at *
 generalize a * b2 = P2 at *
 generalize a * b3 = P3 at *
 unfold val
 omega

theorem wr_eq {x q : Int} (h : x % 18446744073709551616 = q) : wr .u64 x = u q := congrArg (Sc.int .u64) h

def ap (a0 a1 a2 a3 : Int) : Nat → Int
 | 0 => 0
 | 1 => a0
 | 2 => a0 + 18446744073709551616 * a1
 | 3 => a0 + 18446744073709551616 * a1 + 340282366920938463463374607431768211456 * a2
 | _ => val a0 a1 a2 a3

def mulEnv (i : Nat) : Env := [(8, .one (.int .i64 i)), (7, .one (.ptr (some (.loc 4 0)))), (6, .one (.ptr (some (.loc 3 0)))), (5, .one (.ptr (some (.loc 2 0)))), (4, .one (.ptr (some (.loc 1 0)))), (3, .one (.ptr (some (.loc 0 0))))]
def mulMem (D : MD) (a0 a1 a2 a3 b0 b1 b2 b3 : Int) (t0 t1 t2 t3 t4 : Nat) (w0 w1 w2 w3 w4 w5 w6 w7 : Int) : Mem := [some ⟨dcells D, t0, 0, false⟩, some ⟨[u a0, u a1, u a2, u a3], t1, 0, false⟩, some ⟨[u b0, u b1, u b2, u b3], t2, 0, false⟩,
 some ⟨[u 0, u 0, u 0, u 0], t3, 0, false⟩, some ⟨[u w0, u w1, u w2, u w3, u w4, u w5, u w6, u w7], t4, 0, false⟩]

def MulI (D : MD) (a0 a1 a2 a3 b0 b1 b2 b3 : Int) (k : Nat) (e : Env) (m : Mem) : Prop :=
 ∃ (i : Nat) (w0 w1 w2 w3 w4 w5 w6 w7 : Int) (t0 t1 t2 t3 t4 : Nat), i ≤ 4 ∧ k = 4 - i ∧ In8 w0 w1 w2 w3 w4 w5 w6 w7 ∧ val8 w0 w1 w2 w3 w4 w5 w6 w7 = ap a0 a1 a2 a3 i * val b0 b1 b2 b3 ∧ (i ≤ 0 → w4 = 0) ∧ (i ≤ 1 → w5 = 0) ∧ (i ≤ 2 → w6 = 0) ∧ (i ≤ 3 → w7 = 0) ∧
  e = mulEnv i ∧ m = mulMem D a0 a1 a2 a3 b0 b1 b2 b3 t0 t1 t2 t3 t4 w0 w1 w2 w3 w4 w5 w6 w7

theorem ap_succ (a0 a1 a2 a3 b : Int) : ap a0 a1 a2 a3 0 * b = 0 ∧ ap a0 a1 a2 a3 1 * b = ap a0 a1 a2 a3 0 * b + a0 * b ∧ ap a0 a1 a2 a3 2 * b = ap a0 a1 a2 a3 1 * b + 18446744073709551616 * (a1 * b) ∧
  ap a0 a1 a2 a3 3 * b = ap a0 a1 a2 a3 2 * b + 340282366920938463463374607431768211456 * (a2 * b) ∧ ap a0 a1 a2 a3 4 * b = ap a0 a1 a2 a3 3 * b + 6277101735386680763835789423207666416102355444464034512896 * (a3 * b) := by
 unfold ap val
 simp only [Int.add_mul, Int.mul_assoc, Int.zero_mul]
 refine ⟨trivial, by omega, trivial, trivial, trivial⟩

end Go.Ev

namespace Go.Ev

theorem and_two (n s : Nat) : n &&& 2 ^ s = (n.testBit s).toNat * 2 ^ s := by
 apply Nat.eq_of_testBit_eq
 intro i
 rw [Nat.testBit_and, Nat.testBit_two_pow]
 cases hb : n.testBit s with
 | true =>
  simp only [Bool.toNat_true, Nat.one_mul, Nat.testBit_two_pow]
  by_cases h : s = i
  ·subst h; simp [hb]
  ·simp [h]
 | false =>
  simp only [Bool.toNat_false, Nat.zero_mul, Nat.zero_testBit]
  by_cases h : s = i
  ·subst h; simp [hb]
  ·simp [h]

theorem wrap_u (x : Int) : IntKind.u64.wrap x = x % 18446744073709551616 := by
 have := wr_conc Con0 .u64 x
 simp only [wr, Sc.conc, Value.int.injEq, true_and] at this
 exact this.symm

theorem and_bit {z : Int} (hz : InU z) {s : Nat} (hs : s < 64) : ((IntKind.u64).wrap ((BitVec.ofInt (IntKind.u64).bits z &&& BitVec.ofInt (IntKind.u64).bits ((2 ^ s : Nat) : Int)).toNat : Int) != 0) = decide (z / 2 ^ s % 2 = 1) := by
 obtain ⟨n, rfl⟩ : ∃ n : Nat, z = n := ⟨z.toNat, by have := hz.1; omega⟩
 have hn : n < 2 ^ 64 := by have := hz.2; omega
 have h2 : 2 ^ s < 2 ^ 64 := Nat.pow_lt_pow_right (by omega) hs
 have e1 : (BitVec.ofInt (IntKind.u64).bits (n : Int) &&& BitVec.ofInt (IntKind.u64).bits ((2 ^ s : Nat) : Int)).toNat = n &&& 2 ^ s := by
  show (BitVec.ofInt 64 (n : Int) &&& BitVec.ofInt 64 ((2 ^ s : Nat) : Int)).toNat = _
  rw [BitVec.ofInt_natCast, BitVec.ofInt_natCast, BitVec.toNat_and, BitVec.toNat_ofNat, BitVec.toNat_ofNat, Nat.mod_eq_of_lt hn, Nat.mod_eq_of_lt h2]
 rw [e1, and_two, Nat.testBit_eq_decide_div_mod_eq]
 have hd : ((n : Int) / 2 ^ s % 2 = 1) ↔ (n / 2 ^ s % 2 = 1) := by
  have : (n : Int) / 2 ^ s % 2 = ((n / 2 ^ s % 2 : Nat) : Int) := by simp
  rw [this]; omega
 by_cases h : n / 2 ^ s % 2 = 1
 ·rw [decide_eq_true (hd.2 h), decide_eq_true h]
  simp only [Bool.toNat_true, Nat.one_mul]
  have hp : 0 < 2 ^ s := Nat.pos_of_ne_zero (by simp)
  generalize 2 ^ s = P at *
  rw [wrap_u, Int.emod_eq_of_lt (by omega) (by omega)]
  simp only [bne_iff_ne, ne_eq]
  omega
 ·rw [decide_eq_false (fun hh => h (hd.1 hh)), decide_eq_false h]
  simp only [Bool.toNat_false, Nat.zero_mul, wrap_u]
  rfl

theorem half_pow (s : Nat) : (2 ^ (s + 1) / 2 : Nat) = 2 ^ s := by rw [Nat.pow_succ]; omega

def PwO (D : MD) (x e0 e1 e2 e3 : Int) (k : Nat) (e : Env) (m : Mem) : Prop :=
 ∃ (i t0 t1 t2 t3 t4 : Nat), k = i ∧ i ≤ 4 ∧
  e = [(8, .one (.int .i64 ((i : Int) - 1))), (7, .one (.ptr (some (.loc 4 0)))), (6, .one (.ptr (some (.loc 3 0)))), (5, .one (.ptr (some (.loc 2 0)))), (4, .one (.ptr (some (.loc 1 0)))), (3, .one (.ptr (some (.loc 0 0))))] ∧
  m = [some ⟨dcells D, t0, 0, false⟩, some ⟨words x, t1, 0, false⟩, some ⟨[u e0, u e1, u e2, u e3], t2, 0, false⟩, some ⟨[u 0, u 0, u 0, u 0], t3, 0, false⟩, some ⟨words (pw D.M x (val e0 e1 e2 e3) (64 * i)), t4, 0, false⟩]

def PwN (D : MD) (x e0 e1 e2 e3 : Int) (q : Nat) (k : Nat) (e : Env) (m : Mem) : Prop :=
 ∃ (s t0 t1 t2 t3 t4 : Nat), k = s ∧ s ≤ 64 ∧
  e = [(9, .one (u ((2 ^ s / 2 : Nat) : Int))), (8, .one (.int .i64 ((q : Int)))), (7, .one (.ptr (some (.loc 4 0)))), (6, .one (.ptr (some (.loc 3 0)))), (5, .one (.ptr (some (.loc 2 0)))), (4, .one (.ptr (some (.loc 1 0)))), (3, .one (.ptr (some (.loc 0 0))))] ∧
  m = [some ⟨dcells D, t0, 0, false⟩, some ⟨words x, t1, 0, false⟩, some ⟨[u e0, u e1, u e2, u e3], t2, 0, false⟩, some ⟨[u 0, u 0, u 0, u 0], t3, 0, false⟩, some ⟨words (pw D.M x (val e0 e1 e2 e3) (64 * q + s)), t4, 0, false⟩]

end Go.Ev

namespace Go.Ev

end Go.Ev

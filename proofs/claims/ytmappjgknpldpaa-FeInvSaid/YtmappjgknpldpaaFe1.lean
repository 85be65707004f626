import Derived.Test.YtmappjgknpldpaaFe0
import Derived.Laws.MathBits
namespace Go.Ev

theorem and32 {z : Int} (h0 : 0 ≤ z) (h1 : z < 18446744073709551616) : (IntKind.u64).wrap ((BitVec.ofInt (IntKind.u64).bits z &&& BitVec.ofInt (IntKind.u64).bits 4294967295).toNat : Int) = z % 4294967296 := and_low32 z h0 h1

theorem shr32 (z : Int) : z.fdiv (2 ^ min (Int.toNat 32) (IntKind.u64).bits) = z / 4294967296 := by
  have : (2 : Int) ^ min (Int.toNat 32) (IntKind.u64).bits = 4294967296 := by decide
  rw [this]
  exact Int.fdiv_eq_ediv_of_nonneg z (by omega)

theorem mul64_fn (x y : Int) (hx : 0 ≤ x) (hx1 : x < 18446744073709551616) (hy : 0 ≤ y) (hy1 : y < 18446744073709551616) :
    Fn PG f_bits_Mul64 [.one (.int .u64 x), .one (.int .u64 y)] (.tup [.one (.int .u64 (x * y / 18446744073709551616)), .one (.int .u64 (x * y % 18446744073709551616))]) := by
  refine fn_start G0 g0Ok (fun _ => rfl) (fun _ => rfl) h_bits_Mul64 rfl (by kernel_rfl) (fun _ => by kernel_rfl) rfl (fun u hu => by simp at hu; rcases hu with rfl | rfl <;> rfl) fun W0 => ?_
  conv => whnf
  have e := mul64_arith x y hx hx1 hy hy1
  simp only [wr, outV, and32 hx hx1, and32 hy hy1, shr32]
  rw [and32 (by omega) (by omega), e]

theorem p_mul64 (W0 : World) : PrimOk PG W0 f_bits_Mul64 .mul64 := primOk_mul64 mul64_fn
theorem gOk (W0 : World) : CfgOk (GG W0) := ggOk p_mul64 W0

/-- The start of a walk over this seat's program. -/
theorem fn_go {f : FuncId} {fn : Func} {args : List TV} {v : TV} (hf : PG.funcs[f]? = some fn)
    (hb : fn.body = some (bodyOf fn)) (hn : (fn.name == "runtime.NumGoroutine") = false) (hk : ∀ W0, okCode (GG W0) fn.ntmps (bodyOf fn) = true) (hv : v.closed 0 = true)
    (hargs : closedTs 0 args = true) (h : ∀ W0, swp (GG W0) (bodyOf fn) (post (GG W0) fn.results fun v' _ => v' = v) (ienv 0 args) []) : Fn PG f args v :=
  fn_start GG gOk (fun _ => rfl) (fun _ => rfl) hf hb hn hk hv (closedTs_iff.1 hargs) h

theorem plus_w (a0 a1 a2 a3 b0 b1 b2 b3 : Int) (h0 : InU a0) (h1 : InU a1) (h2 : InU a2) (h3 : InU a3) (g0 : InU b0) (g1 : InU b1) (g2 : InU b2) (g3 : InU b3) :
    Fn PG f_fe_plus [w4 a0 a1 a2 a3, w4 b0 b1 b2 b3]
      (.tup [.agg (words ((val a0 a1 a2 a3 + val b0 b1 b2 b3) % 115792089237316195423570985008687907853269984665640564039457584007913129639936)), .one (u ((val a0 a1 a2 a3 + val b0 b1 b2 b3) / 115792089237316195423570985008687907853269984665640564039457584007913129639936))]) := by
  refine fn_go h_fe_plus rfl (by kernel_rfl) (fun _ => by kernel_rfl) rfl rfl fun W0 => ?_
  conv => whnf
  refine .inl ⟨5, ?_⟩
  conv => whnf
  refine ⟨by omega, ?_⟩
  intro s0 c0 e0 l0 u0 p0
  conv => whnf
  refine ⟨by omega, ?_⟩
  intro s1 c1 e1 l1 u1 p1
  conv => whnf
  refine ⟨by omega, ?_⟩
  intro s2 c2 e2 l2 u2 p2
  conv => whnf
  refine ⟨by omega, ?_⟩
  intro s3 c3 e3 l3 u3 p3
  conv => whnf
  have hs : (val a0 a1 a2 a3 + val b0 b1 b2 b3) % 115792089237316195423570985008687907853269984665640564039457584007913129639936 = val s0 s1 s2 s3 := by unfold val; omega
  have hc : (val a0 a1 a2 a3 + val b0 b1 b2 b3) / 115792089237316195423570985008687907853269984665640564039457584007913129639936 = c3 := by unfold val; omega
  rw [hs, hc, words_val ⟨l0, u0⟩ ⟨l1, u1⟩ ⟨l2, u2⟩ ⟨l3, u3⟩]
  rfl

end Go.Ev

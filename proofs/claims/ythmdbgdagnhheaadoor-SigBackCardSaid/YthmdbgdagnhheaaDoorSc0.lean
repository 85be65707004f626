import Derived.Test.YthmdbgdagnhheaaDoorRfA
import Derived.Test.YthmdbgdagnhheaaDoorWq
namespace Go.Ev

theorem scOrder_fn : Fn PG f_scalar_order [] (W nn) := by
 refine fn_go h_scalar_order rfl (by kernel_rfl) (fun _ => by kernel_rfl) rfl rfl fun W0 => ?_
 conv => whnf
 kernel_rfl

theorem scMinus_fn {x y : Int} (hx : InW x) (hy : InW y) : Fn PG f_scalar_minus [W x, W y] (.tup [.agg (words ((x - y) % 115792089237316195423570985008687907853269984665640564039457584007913129639936)), .one (u (-((x - y) / 115792089237316195423570985008687907853269984665640564039457584007913129639936)))]) := by
 obtain ⟨a0, a1, a2, a3, h0, h1, h2, h3, rfl⟩ := split4 hx
 obtain ⟨b0, b1, b2, b3, g0, g1, g2, g3, rfl⟩ := split4 hy
 simp only [W, words_val h0 h1 h2 h3, words_val g0 g1 g2 g3]
 refine fn_go h_scalar_minus rfl (by kernel_rfl) (fun _ => by kernel_rfl) rfl rfl fun W0 => ?_
 conv => whnf
 refine .inl ⟨5, ?_⟩
 conv => whnf
 refine ⟨by omega, ?_⟩
 intro s0 c0 e0 l0 u0 p0 q0
 conv => whnf
 refine ⟨by omega, ?_⟩
 intro s1 c1 e1 l1 u1 p1 q1
 conv => whnf
 refine ⟨by omega, ?_⟩
 intro s2 c2 e2 l2 u2 p2 q2
 conv => whnf
 refine ⟨by omega, ?_⟩
 intro s3 c3 e3 l3 u3 p3 q3
 conv => whnf
 have hs : (val a0 a1 a2 a3 - val b0 b1 b2 b3) % 115792089237316195423570985008687907853269984665640564039457584007913129639936 = val s0 s1 s2 s3 := by unfold val; omega
 have hc : -((val a0 a1 a2 a3 - val b0 b1 b2 b3) / 115792089237316195423570985008687907853269984665640564039457584007913129639936) = c3 := by unfold val; omega
 rw [hs, hc, words_val ⟨l0, u0⟩ ⟨l1, u1⟩ ⟨l2, u2⟩ ⟨l3, u3⟩]
 rfl

theorem scNorm_fn {x : Int} (hx : InW x) : Fn PG f_scalar_Norm [W x] (W (x % nn)) := by
 refine fn_go h_scalar_Norm rfl (by kernel_rfl) (fun _ => by kernel_rfl) rfl rfl fun W0 => ?_
 conv => whnf
 refine ⟨_, scOrder_fn.2 _ _, rfl, ?_⟩
 conv => whnf
 refine ⟨_, (scMinus_fn (x := x) (y := nn) hx (by decide)).2 _ _, rfl, ?_⟩
 conv => whnf
 split
 ·rename_i h
  have h := of_decide_eq_true h
  conv => whnf
  have : x % nn = x := by unfold nn at *; omega
  rw [this]
  rfl
 ·rename_i h
  have h := of_decide_eq_false h
  conv => whnf
  have : x % nn = (x - nn) % 115792089237316195423570985008687907853269984665640564039457584007913129639936 := by unfold nn at *; omega
  rw [this]
  rfl

end Go.Ev

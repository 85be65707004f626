import Derived.Test.YthmdbgdagnhheaaGreatDoorFe0
import Derived.Laws.MathBits

namespace Go.Ev

theorem and32 {z:Int} (h0:0≤z) (h1:z<18446744073709551616):(IntKind.u64).wrap ((BitVec.ofInt (IntKind.u64).bits z &&& BitVec.ofInt (IntKind.u64).bits 4294967295).toNat:Int)=z%4294967296:=and_low32 z h0 h1

theorem shr32 (z:Int):z.fdiv (2^min (Int.toNat 32) (IntKind.u64).bits)=z/4294967296:=by
 have:(2:Int)^min (Int.toNat 32) (IntKind.u64).bits=4294967296:=by decide
 rw [this]
 exact Int.fdiv_eq_ediv_of_nonneg z (by omega)

theorem mul64_fn (x y:Int) (hx:0≤x) (hx1:x<18446744073709551616) (hy:0≤y) (hy1:y<18446744073709551616) :
  Fn PG f_bits_Mul64 [.one (.int .u64 x),.one (.int .u64 y)] (.tup [.one (.int .u64 (x*y/18446744073709551616)),.one (.int .u64 (x*y%18446744073709551616))]):=by
 refine fn_start G0 g0Ok (fun _=>rfl) (fun _=>rfl) h_bits_Mul64 rfl (by kernel_rfl) (fun _=>by kernel_rfl) rfl (fun u hu=>by simp at hu; rcases hu with rfl | rfl<;>rfl) fun W0=>?_
 conv=>whnf
 have e:=mul64_arith x y hx hx1 hy hy1
 simp only [wr,outV,and32 hx hx1,and32 hy hy1,shr32]
 rw [and32 (by omega) (by omega),e]

theorem p_mul64 (W0:World):PrimOk PG W0 f_bits_Mul64 .mul64:=primOk_mul64 mul64_fn
theorem gOk (W0:World):CfgOk (GG W0):=ggOk p_mul64 W0

theorem fn_go {f:FuncId} {fn:Func} {args:List TV} {v:TV} (hf:PG.funcs[f]?=some fn)
  (hb : fn.body = some (bodyOf fn)) (hn : (fn.name == "runtime.NumGoroutine") = false) (hk : ∀ W0, okCode (GG W0) fn.ntmps (bodyOf fn) = true) (hv : v.closed 0 = true)
  (hargs:closedTs 0 args=true) (h:∀ W0,swp (GG W0) (bodyOf fn) (post (GG W0) fn.results fun v' _=>v'=v) (ienv 0 args) []):Fn PG f args v:=
 fn_start GG gOk (fun _=>rfl) (fun _=>rfl) hf hb hn hk hv (closedTs_iff.1 hargs) h

theorem plus_w (a0 a1 a2 a3 b0 b1 b2 b3:Int) (h0:InU a0) (h1:InU a1) (h2:InU a2) (h3:InU a3) (g0:InU b0) (g1:InU b1) (g2:InU b2) (g3:InU b3) :
  Fn PG f_fe_plus [w4 a0 a1 a2 a3,w4 b0 b1 b2 b3]
   (.tup [.agg (words ((val a0 a1 a2 a3+val b0 b1 b2 b3)%115792089237316195423570985008687907853269984665640564039457584007913129639936)),.one (u ((val a0 a1 a2 a3+val b0 b1 b2 b3)/115792089237316195423570985008687907853269984665640564039457584007913129639936))]):=by
 refine fn_go h_fe_plus rfl (by kernel_rfl) (fun _=>by kernel_rfl) rfl rfl fun W0=>?_
 conv=>whnf
 refine .inl ⟨5,?_⟩
 conv=>whnf
 refine ⟨by omega,?_⟩
 intro s0 c0 e0 l0 u0 p0
 conv=>whnf
 refine ⟨by omega,?_⟩
 intro s1 c1 e1 l1 u1 p1
 conv=>whnf
 refine ⟨by omega,?_⟩
 intro s2 c2 e2 l2 u2 p2
 conv=>whnf
 refine ⟨by omega,?_⟩
 intro s3 c3 e3 l3 u3 p3
 conv=>whnf
 have hs:(val a0 a1 a2 a3+val b0 b1 b2 b3)%115792089237316195423570985008687907853269984665640564039457584007913129639936=val s0 s1 s2 s3:=by unfold val; omega
 have hc:(val a0 a1 a2 a3+val b0 b1 b2 b3)/115792089237316195423570985008687907853269984665640564039457584007913129639936=c3:=by unfold val; omega
 rw [hs,hc,words_val ⟨l0,u0⟩ ⟨l1,u1⟩ ⟨l2,u2⟩ ⟨l3,u3⟩]
 rfl

end Go.Ev

namespace Go.Ev

def pp:Int:=115792089237316195423570985008687907853269984665640564039457584007908834671663

theorem plus_fn {x y:Int} (hx:InW x) (hy:InW y):Fn PG f_fe_plus [W x,W y] (.tup [.agg (words ((x+y)%115792089237316195423570985008687907853269984665640564039457584007913129639936)),.one (u ((x+y)/115792089237316195423570985008687907853269984665640564039457584007913129639936))]):=by
 obtain ⟨a0,a1,a2,a3,h0,h1,h2,h3,rfl⟩:=split4 hx
 obtain ⟨b0,b1,b2,b3,g0,g1,g2,g3,rfl⟩:=split4 hy
 have:=plus_w a0 a1 a2 a3 b0 b1 b2 b3 h0 h1 h2 h3 g0 g1 g2 g3
 simpa only [W,w4,words_val h0 h1 h2 h3,words_val g0 g1 g2 g3] using this

theorem minus_fn {x y:Int} (hx:InW x) (hy:InW y):Fn PG f_fe_minus [W x,W y] (.tup [.agg (words ((x-y)%115792089237316195423570985008687907853269984665640564039457584007913129639936)),.one (u (-((x-y)/115792089237316195423570985008687907853269984665640564039457584007913129639936)))]):=by
 obtain ⟨a0,a1,a2,a3,h0,h1,h2,h3,rfl⟩:=split4 hx
 obtain ⟨b0,b1,b2,b3,g0,g1,g2,g3,rfl⟩:=split4 hy
 simp only [W,words_val h0 h1 h2 h3,words_val g0 g1 g2 g3]
 refine fn_go h_fe_minus rfl (by kernel_rfl) (fun _=>by kernel_rfl) rfl rfl fun W0=>?_
 conv=>whnf
 refine .inl ⟨5,?_⟩
 conv=>whnf
 refine ⟨by omega,?_⟩
 intro s0 c0 e0 l0 u0 p0 q0
 conv=>whnf
 refine ⟨by omega,?_⟩
 intro s1 c1 e1 l1 u1 p1 q1
 conv=>whnf
 refine ⟨by omega,?_⟩
 intro s2 c2 e2 l2 u2 p2 q2
 conv=>whnf
 refine ⟨by omega,?_⟩
 intro s3 c3 e3 l3 u3 p3 q3
 conv=>whnf
 have hs:(val a0 a1 a2 a3-val b0 b1 b2 b3)%115792089237316195423570985008687907853269984665640564039457584007913129639936=val s0 s1 s2 s3:=by unfold val; omega
 have hc : -((val a0 a1 a2 a3-val b0 b1 b2 b3)/115792089237316195423570985008687907853269984665640564039457584007913129639936)=c3:=by unfold val; omega
 rw [hs,hc,words_val ⟨l0,u0⟩ ⟨l1,u1⟩ ⟨l2,u2⟩ ⟨l3,u3⟩]
 rfl

theorem prime_fn:Fn PG f_fe_prime [] (W pp):=by
 refine fn_go h_fe_prime rfl (by kernel_rfl) (fun _=>by kernel_rfl) rfl rfl fun W0=>?_
 conv=>whnf
 kernel_rfl

theorem norm_fn {x:Int} (hx:InW x):Fn PG f_fe_Norm [W x] (W (x%pp)):=by
 refine fn_go h_fe_Norm rfl (by kernel_rfl) (fun _=>by kernel_rfl) rfl rfl fun W0=>?_
 conv=>whnf
 refine ⟨_,prime_fn.2 _ _,rfl,?_⟩
 conv=>whnf
 refine ⟨_,(minus_fn (x:=x) (y:=pp) hx (by decide)).2 _ _,rfl,?_⟩
 conv=>whnf
 split
 ·rename_i h
  have h:=of_decide_eq_true h
  conv=>whnf
  have:x%pp=x:=by unfold pp at *; omega
  rw [this]
  rfl
 ·rename_i h
  have h:=of_decide_eq_false h
  conv=>whnf
  have:x%pp=(x-pp)%115792089237316195423570985008687907853269984665640564039457584007913129639936:=by unfold pp at *; omega
  rw [this]
  rfl

end Go.Ev

namespace Go.Ev

theorem mac {a b w c hi lo x k y l:Int} (e:18446744073709551616*hi+lo=a*b) (h0:0≤hi) (l0:0≤lo) (l1:lo<18446744073709551616) (hb:18446744073709551616*hi+lo≤340282366920938463426481119284349108225)
  (hw:InU w) (hc:InU c) (e1:x+18446744073709551616*k=lo+w+0) (_:0≤x) (_:x<18446744073709551616) (_:0≤k)
  (e2:y+18446744073709551616*l=x+c+0) (y0:0≤y) (y1:y<18446744073709551616) (_:0≤l) :
  ((hi+k)%18446744073709551616+l)%18446744073709551616=hi+k+l∧y+18446744073709551616*(hi+k+l)=w+c+a*b∧InU (hi+k+l):=by
 rw [← e]
 generalize a*b=p at *
 refine ⟨by omega,by omega,⟨by omega,by omega⟩⟩

theorem prod_le {a m:Int} (ha:InU a) (hm:InU m):0≤a*m∧a*m≤340282366920938463426481119284349108225:=by
 refine ⟨Int.mul_nonneg ha.1 hm.1,?_⟩
 have:=Int.mul_le_mul (a:=a) (b:=m) (c:=18446744073709551615) (d:=18446744073709551615) (by omega) (by omega) hm.1 (by omega)
 omega

theorem val_mul (a b c d m:Int):val a b c d*m=a*m+18446744073709551616*(b*m)+340282366920938463463374607431768211456*(c*m)+6277101735386680763835789423207666416102355444464034512896*(d*m):=by
 unfold val
 simp only [Int.add_mul,Int.mul_assoc]

set_option maxHeartbeats 1000000 in
theorem times_w (s0 s1 s2 s3 a0 a1 a2 a3 m:Int) (h0:InU s0) (h1:InU s1) (h2:InU s2) (h3:InU s3) (g0:InU a0) (g1:InU a1) (g2:InU a2) (g3:InU a3) (hm:InU m) :
  ∃ r c:Int,InW r∧InU c∧r+115792089237316195423570985008687907853269984665640564039457584007913129639936*c=val s0 s1 s2 s3+val a0 a1 a2 a3*m ∧
  Fn PG f_fe_times [w4 s0 s1 s2 s3,w4 a0 a1 a2 a3,.one (u m)] (.tup [.agg (words r),.one (u c)]):=by
 refine ⟨(val s0 s1 s2 s3+val a0 a1 a2 a3*m)%115792089237316195423570985008687907853269984665640564039457584007913129639936,
  (val s0 s1 s2 s3+val a0 a1 a2 a3*m)/115792089237316195423570985008687907853269984665640564039457584007913129639936,?_⟩
 have p0:=prod_le g0 hm
 have p1:=prod_le g1 hm
 have p2:=prod_le g2 hm
 have p3:=prod_le g3 hm
 rw [val_mul]
 have hv:0≤val s0 s1 s2 s3∧val s0 s1 s2 s3<115792089237316195423570985008687907853269984665640564039457584007913129639936:=by unfold val; omega
 refine ⟨⟨by omega,by omega⟩,⟨by omega,by omega⟩,by omega,?_⟩
 refine fn_go h_fe_times rfl (by kernel_rfl) (fun _=>by kernel_rfl) rfl rfl fun W0=>?_
 conv=>whnf
 refine .inl ⟨5,?_⟩
 conv=>whnf
 refine ⟨⟨g0.1,g0.2,hm.1,hm.2⟩,?_⟩
 intro hi0 lo0 e0 b1 b2 b3 b4 _
 conv=>whnf
 refine ⟨by omega,?_⟩
 intro x0 k0 e1 b5 b6 b7
 conv=>whnf
 refine ⟨by omega,?_⟩
 intro y0 j0 e2 b8 b9 b10
 conv=>whnf
 refine ⟨⟨g1.1,g1.2,hm.1,hm.2⟩,?_⟩
 have c0:((hi0+k0)%18446744073709551616+j0)%18446744073709551616=hi0+k0+j0:=by omega
 have d0:y0+18446744073709551616*(hi0+k0+j0)=s0+a0*m:=by omega
 have f0:InU (hi0+k0+j0):=⟨by omega,by omega⟩
 intro hi1 lo1 e3 b11 b12 b13 b14 _
 conv=>whnf
 rw [c0]
 generalize hi0+k0+j0=q0 at *
 clear e0 b1 b2 b3 b4 e1 b5 b6 b7 e2 b10 c0
 refine ⟨⟨by omega,f0.1,by omega,by omega⟩,?_⟩
 intro x1 k1 e1 b5 b6 b7
 conv=>whnf
 refine ⟨by omega,?_⟩
 intro y1 j1 e2 b8' b9' b10
 conv=>whnf
 refine ⟨⟨g2.1,g2.2,hm.1,hm.2⟩,?_⟩
 have c1:((hi1+k1)%18446744073709551616+j1)%18446744073709551616=hi1+k1+j1:=by omega
 have d1:y1+18446744073709551616*(hi1+k1+j1)=s1+a1*m+q0:=by omega
 have f1:InU (hi1+k1+j1):=⟨by omega,by omega⟩
 intro hi2 lo2 e4 b15 b16 b17 b18 _
 conv=>whnf
 rw [c1]
 generalize hi1+k1+j1=q1 at *
 clear e3 b11 b12 b13 b14 e1 b5 b6 b7 e2 b10 c1
 refine ⟨⟨by omega,f1.1,by omega,by omega⟩,?_⟩
 intro x2 k2 e1 b5 b6 b7
 conv=>whnf
 refine ⟨by omega,?_⟩
 intro y2 j2 e2 b8'' b9'' b10
 conv=>whnf
 refine ⟨⟨g3.1,g3.2,hm.1,hm.2⟩,?_⟩
 have c2:((hi2+k2)%18446744073709551616+j2)%18446744073709551616=hi2+k2+j2:=by omega
 have d2:y2+18446744073709551616*(hi2+k2+j2)=s2+a2*m+q1:=by omega
 have f2:InU (hi2+k2+j2):=⟨by omega,by omega⟩
 intro hi3 lo3 e5 b19 b20 b21 b22 _
 conv=>whnf
 rw [c2]
 generalize hi2+k2+j2=q2 at *
 clear e4 b15 b16 b17 b18 e1 b5 b6 b7 e2 b10 c2
 refine ⟨⟨by omega,f2.1,by omega,by omega⟩,?_⟩
 intro x3 k3 e1 b5 b6 b7
 conv=>whnf
 refine ⟨by omega,?_⟩
 intro y3 j3 e2 b8''' b9''' b10
 conv=>whnf
 have c3:((hi3+k3)%18446744073709551616+j3)%18446744073709551616=hi3+k3+j3:=by omega
 have d3:y3+18446744073709551616*(hi3+k3+j3)=s3+a3*m+q2:=by omega
 have f3:InU (hi3+k3+j3):=⟨by omega,by omega⟩
 clear e1 e2 e5
 have hr:(val s0 s1 s2 s3+(a0*m+18446744073709551616*(a1*m)+340282366920938463463374607431768211456*(a2*m)+6277101735386680763835789423207666416102355444464034512896*(a3*m))) =
   val y0 y1 y2 y3+115792089237316195423570985008687907853269984665640564039457584007913129639936*(hi3+k3+j3):=by
  unfold val; omega
 have hy:InW (val y0 y1 y2 y3):=⟨by unfold val; omega,by unfold val; omega⟩
 rw [hr]
 have r1:(val y0 y1 y2 y3+115792089237316195423570985008687907853269984665640564039457584007913129639936*(hi3+k3+j3))%115792089237316195423570985008687907853269984665640564039457584007913129639936=val y0 y1 y2 y3:=by omega
 have r2:(val y0 y1 y2 y3+115792089237316195423570985008687907853269984665640564039457584007913129639936*(hi3+k3+j3))/115792089237316195423570985008687907853269984665640564039457584007913129639936=hi3+k3+j3:=by omega
 rw [r1,r2,words_val ⟨b8,b9⟩ ⟨b8',b9'⟩ ⟨b8'',b9''⟩ ⟨b8''',b9'''⟩]
 show TV.tup [.agg [u y0,u y1,u y2,u y3],.one (wr .u64 ((hi3+k3)%18446744073709551616+j3))]=_
 simp only [wr,c3]
 rfl

end Go.Ev

namespace Go.Ev

theorem times_x (s0 s1 s2 s3 a0 a1 a2 a3 m:Int) (h0:InU s0) (h1:InU s1) (h2:InU s2) (h3:InU s3) (g0:InU a0) (g1:InU a1) (g2:InU a2) (g3:InU a3) (hm:InU m) :
  ∃ r0 r1 r2 r3 c:Int,InU r0∧InU r1∧InU r2∧InU r3∧InU c ∧
   val r0 r1 r2 r3+115792089237316195423570985008687907853269984665640564039457584007913129639936*c=val s0 s1 s2 s3+val a0 a1 a2 a3*m ∧
  Fn PG f_fe_times [w4 s0 s1 s2 s3,w4 a0 a1 a2 a3,.one (u m)] (.tup [.agg [u r0,u r1,u r2,u r3],.one (u c)]):=by
 obtain ⟨r,c,hr,hc,he,hfn⟩:=times_w s0 s1 s2 s3 a0 a1 a2 a3 m h0 h1 h2 h3 g0 g1 g2 g3 hm
 obtain ⟨r0,r1,r2,r3,k0,k1,k2,k3,rfl⟩:=split4 hr
 rw [words_val k0 k1 k2 k3] at hfn
 exact ⟨r0,r1,r2,r3,c,k0,k1,k2,k3,hc,he,hfn⟩

set_option maxHeartbeats 1000000 in
theorem feMul_fn {x y:Int} (hx:InW x) (hy:InW y):Fn PG f_fe_Mul [W x,W y] (W (x*y%pp)):=by
 obtain ⟨a0,a1,a2,a3,h0,h1,h2,h3,rfl⟩:=split4 hx
 obtain ⟨b0,b1,b2,b3,g0,g1,g2,g3,rfl⟩:=split4 hy
 have z:InU 0:=⟨by omega,by omega⟩
 obtain ⟨p0,p1,p2,p3,c0,i1,i2,i3,i4,i5,e0,F0⟩:=times_x 0 0 0 0 a0 a1 a2 a3 b0 z z z z h0 h1 h2 h3 g0
 obtain ⟨q0,q1,q2,q3,c1,j1,j2,j3,j4,j5,e1,F1⟩:=times_x p1 p2 p3 c0 a0 a1 a2 a3 b1 i2 i3 i4 i5 h0 h1 h2 h3 g1
 obtain ⟨r0,r1,r2,r3,c2,k1,k2,k3,k4,k5,e2,F2⟩:=times_x q1 q2 q3 c1 a0 a1 a2 a3 b2 j2 j3 j4 j5 h0 h1 h2 h3 g2
 obtain ⟨s0,s1,s2,s3,c3,l1,l2,l3,l4,l5,e3,F3⟩:=times_x r1 r2 r3 c2 a0 a1 a2 a3 b3 k2 k3 k4 k5 h0 h1 h2 h3 g3
 have lz:InU 4294968273:=⟨by omega,by omega⟩
 obtain ⟨t0,t1,t2,t3,c4,m1,m2,m3,m4,m5,e4,F4⟩:=times_x p0 q0 r0 s0 s1 s2 s3 c3 4294968273 i1 j1 k1 l1 l2 l3 l4 l5 lz
 have hprod:val a0 a1 a2 a3*val b0 b1 b2 b3=val p0 q0 r0 s0+115792089237316195423570985008687907853269984665640564039457584007913129639936*val s1 s2 s3 c3:=by
  have:val a0 a1 a2 a3*val b0 b1 b2 b3=val a0 a1 a2 a3*b0+18446744073709551616*(val a0 a1 a2 a3*b1)+340282366920938463463374607431768211456*(val a0 a1 a2 a3*b2)+6277101735386680763835789423207666416102355444464034512896*(val a0 a1 a2 a3*b3):=by
   generalize val a0 a1 a2 a3=A
   unfold val
   simp only [Int.mul_add,Int.mul_left_comm A]
  rw [this]
  generalize val a0 a1 a2 a3*b0=B0 at *
  generalize val a0 a1 a2 a3*b1=B1 at *
  generalize val a0 a1 a2 a3*b2=B2 at *
  generalize val a0 a1 a2 a3*b3=B3 at *
  unfold val at *
  omega
 rw [hprod]
 simp only [W,words_val h0 h1 h2 h3,words_val g0 g1 g2 g3]
 clear e0 e1 e2 e3 hprod
 refine fn_go h_fe_Mul rfl (by kernel_rfl) (fun _=>by kernel_rfl) rfl rfl fun W0=>?_
 conv=>whnf
 refine .inl ⟨5,?_⟩
 conv=>whnf
 refine ⟨_,F0.2 _ _,rfl,?_⟩
 conv=>whnf
 refine ⟨_,F1.2 _ _,rfl,?_⟩
 conv=>whnf
 refine ⟨_,F2.2 _ _,rfl,?_⟩
 conv=>whnf
 refine ⟨_,F3.2 _ _,rfl,?_⟩
 conv=>whnf
 refine ⟨_,F4.2 _ _,rfl,?_⟩
 conv=>whnf
 refine ⟨⟨m5.1,m5.2,by omega,by omega⟩,?_⟩
 intro hi lo e5 n1 n2 n3 n4 _
 conv=>whnf
 have hw1:InW (val t0 t1 t2 t3):=⟨by unfold val; omega,by unfold val; omega⟩
 have hw2:InW (val lo hi 0 0):=⟨by unfold val; omega,by unfold val; omega⟩
 have P1:=plus_w t0 t1 t2 t3 lo hi 0 0 m1 m2 m3 m4 ⟨n3,n4⟩ ⟨n1,n2⟩ z z
 refine ⟨_,P1.2 _ _,rfl,?_⟩
 conv=>whnf
 have hT:val t0 t1 t2 t3+115792089237316195423570985008687907853269984665640564039457584007913129639936*c4=val p0 q0 r0 s0+4294968273*val s1 s2 s3 c3:=by rw [e4]; omega
 have hb1:InW (val p0 q0 r0 s0):=⟨by unfold val; omega,by unfold val; omega⟩
 have hb2:InW (val s1 s2 s3 c3):=⟨by unfold val; omega,by unfold val; omega⟩
 have hlh:val lo hi 0 0=c4*4294968273:=by unfold val; omega
 rw [hlh]
 rw [hlh] at hw2
 generalize val t0 t1 t2 t3=T at *
 generalize val p0 q0 r0 s0=L at *
 generalize val s1 s2 s3 c3=H at *
 have c4le:c4≤4294968273:=by omega
 clear e4 e5 P1 F0 F1 F2 F3 F4
 clear h0 h1 h2 h3 g0 g1 g2 g3 z i1 i2 i3 i4 i5 j1 j2 j3 j4 j5 k1 k2 k3 k4 k5 l1 l2 l3 l4 l5 lz m1 m2 m3 m4 n1 n2 n3 n4 hlh hx hy
 split
 ·rename_i h
  have h:=of_decide_eq_true h
  conv=>whnf
  have hr:InW ((T+c4*4294968273)%115792089237316195423570985008687907853269984665640564039457584007913129639936):=⟨by omega,by omega⟩
  refine ⟨_,(plus_fn (y:=4294968273) hr ⟨by omega,by omega⟩).2 _ _,rfl,?_⟩
  conv=>whnf
  refine ⟨_,(norm_fn (x:=((T+c4*4294968273)%115792089237316195423570985008687907853269984665640564039457584007913129639936+4294968273)%115792089237316195423570985008687907853269984665640564039457584007913129639936) ⟨by omega,by omega⟩).2 _ _,rfl,?_⟩
  conv=>whnf
  have:(L+115792089237316195423570985008687907853269984665640564039457584007913129639936*H)%pp=((T+c4*4294968273)%115792089237316195423570985008687907853269984665640564039457584007913129639936+4294968273)%115792089237316195423570985008687907853269984665640564039457584007913129639936%pp:=by
   have e1:(T+c4*4294968273)%115792089237316195423570985008687907853269984665640564039457584007913129639936=T+c4*4294968273-115792089237316195423570985008687907853269984665640564039457584007913129639936:=by omega
   have e2:(T+c4*4294968273-115792089237316195423570985008687907853269984665640564039457584007913129639936+4294968273)%115792089237316195423570985008687907853269984665640564039457584007913129639936=T+c4*4294968273-pp:=by unfold pp; omega
   rw [e1,e2]
   have e3:L+115792089237316195423570985008687907853269984665640564039457584007913129639936*H=T+c4*4294968273-pp+pp*(c4+H+1):=by unfold pp; omega
   rw [e3,Int.add_mul_emod_self_left]
  rw [this]
  rfl
 ·rename_i h
  have h:=of_decide_eq_false h
  conv=>whnf
  refine ⟨_,(norm_fn (x:=(T+c4*4294968273)%115792089237316195423570985008687907853269984665640564039457584007913129639936) ⟨by omega,by omega⟩).2 _ _,rfl,?_⟩
  conv=>whnf
  have:(L+115792089237316195423570985008687907853269984665640564039457584007913129639936*H)%pp=(T+c4*4294968273)%115792089237316195423570985008687907853269984665640564039457584007913129639936%pp:=by
   have e1:(T+c4*4294968273)%115792089237316195423570985008687907853269984665640564039457584007913129639936=T+c4*4294968273:=by omega
   rw [e1]
   have e3:L+115792089237316195423570985008687907853269984665640564039457584007913129639936*H=T+c4*4294968273+pp*(c4+H):=by unfold pp; omega
   rw [e3,Int.add_mul_emod_self_left]
  rw [this]
  rfl

end Go.Ev

namespace Go.Ev

theorem feOf_fn {n:Int} (hn:InU n):Fn PG f_fe_Of [.one (u n)] (W n):=by
 refine fn_go h_fe_Of rfl (by kernel_rfl) (fun _=>by kernel_rfl) rfl rfl fun W0=>?_
 conv=>whnf
 have z:InU 0:=⟨by omega,by omega⟩
 have h:n=val n 0 0 0:=by unfold val; omega
 have h2:=words_val hn z z z
 rw [← h] at h2
 show TV.agg [u n,u 0,u 0,u 0]=W n
 rw [W,h2]

theorem feNeg_fn {x:Int} (hx:InW x):Fn PG f_fe_Neg [W x] (W (-x%pp)):=by
 refine fn_go h_fe_Neg rfl (by kernel_rfl) (fun _=>by kernel_rfl) rfl rfl fun W0=>?_
 conv=>whnf
 refine ⟨_,prime_fn.2 _ _,rfl,?_⟩
 conv=>whnf
 refine ⟨_,(norm_fn hx).2 _ _,rfl,?_⟩
 conv=>whnf
 have h1:InW (x%pp):=by unfold pp; exact ⟨by omega,by omega⟩
 have h2:InW pp:=by unfold pp; exact ⟨by omega,by omega⟩
 refine ⟨_,(minus_fn h2 h1).2 _ _,rfl,?_⟩
 conv=>whnf
 refine ⟨_,(norm_fn (x:=(pp-x%pp)%115792089237316195423570985008687907853269984665640564039457584007913129639936) ⟨by omega,by omega⟩).2 _ _,rfl,?_⟩
 conv=>whnf
 have : -x%pp=(pp-x%pp)%115792089237316195423570985008687907853269984665640564039457584007913129639936%pp:=by
  have:(pp-x%pp)%115792089237316195423570985008687907853269984665640564039457584007913129639936=pp-x%pp:=by unfold pp; omega
  rw [this]
  unfold pp; omega
 rw [this]
 rfl

theorem feAdd_fn {x y:Int} (hx:InW x) (hy:InW y):Fn PG f_fe_Add [W x,W y] (W ((x+y)%pp)):=by
 have h1:InW (x%pp):=by unfold pp; exact ⟨by omega,by omega⟩
 have h2:InW (y%pp):=by unfold pp; exact ⟨by omega,by omega⟩
 refine fn_go h_fe_Add rfl (by kernel_rfl) (fun _=>by kernel_rfl) rfl rfl fun W0=>?_
 conv=>whnf
 refine ⟨_,(norm_fn hx).2 _ _,rfl,?_⟩
 conv=>whnf
 refine ⟨_,(norm_fn hy).2 _ _,rfl,?_⟩
 conv=>whnf
 refine ⟨_,(plus_fn h1 h2).2 _ _,rfl,?_⟩
 conv=>whnf
 have hs:(x+y)%pp=(x%pp+y%pp)%pp:=Int.add_emod x y pp
 rw [hs]
 have hx1:0≤x%pp∧x%pp<pp:=by unfold pp; omega
 have hy1:0≤y%pp∧y%pp<pp:=by unfold pp; omega
 generalize x%pp=X at *
 generalize y%pp=Y at *
 split
 ·rename_i h
  have h:=of_decide_eq_true h
  conv=>whnf
  refine ⟨_,(plus_fn (x:=(X+Y)%115792089237316195423570985008687907853269984665640564039457584007913129639936) (y:=4294968273) ⟨by omega,by omega⟩ ⟨by omega,by omega⟩).2 _ _,rfl,?_⟩
  conv=>whnf
  refine ⟨_,(norm_fn (x:=((X+Y)%115792089237316195423570985008687907853269984665640564039457584007913129639936+4294968273)%115792089237316195423570985008687907853269984665640564039457584007913129639936) ⟨by omega,by omega⟩).2 _ _,rfl,?_⟩
  conv=>whnf
  have:(X+Y)%pp=((X+Y)%115792089237316195423570985008687907853269984665640564039457584007913129639936+4294968273)%115792089237316195423570985008687907853269984665640564039457584007913129639936%pp:=by
   unfold pp at *; omega
  rw [this]
  rfl
 ·rename_i h
  have h:=of_decide_eq_false h
  conv=>whnf
  refine ⟨_,(norm_fn (x:=(X+Y)%115792089237316195423570985008687907853269984665640564039457584007913129639936) ⟨by omega,by omega⟩).2 _ _,rfl,?_⟩
  conv=>whnf
  have:(X+Y)%pp=(X+Y)%115792089237316195423570985008687907853269984665640564039457584007913129639936%pp:=by
   unfold pp at *; omega
  rw [this]
  rfl

theorem feSub_fn {x y:Int} (hx:InW x) (hy:InW y):Fn PG f_fe_Sub [W x,W y] (W ((x-y)%pp)):=by
 have h2:InW (-y%pp):=by unfold pp; exact ⟨by omega,by omega⟩
 refine fn_go h_fe_Sub rfl (by kernel_rfl) (fun _=>by kernel_rfl) rfl rfl fun W0=>?_
 conv=>whnf
 refine ⟨_,(feNeg_fn hy).2 _ _,rfl,?_⟩
 conv=>whnf
 refine ⟨_,(feAdd_fn hx h2).2 _ _,rfl,?_⟩
 conv=>whnf
 have:(x-y)%pp=(x + -y%pp)%pp:=by rw [Int.sub_eq_add_neg,Int.add_emod x (-y%pp),Int.emod_emod_of_dvd _ (Int.dvd_refl _),← Int.add_emod]
 rw [this]
 rfl

theorem and1 {z:Int} (h0:0≤z) (h1:z<18446744073709551616):(IntKind.u64).wrap ((BitVec.ofInt (IntKind.u64).bits z &&& BitVec.ofInt (IntKind.u64).bits 1).toNat:Int)=z%2:=by
 obtain ⟨n,rfl⟩:=Int.eq_ofNat_of_zero_le h0
 have e1:BitVec.ofInt (IntKind.u64).bits (n:Int)=BitVec.ofNat 64 n:=by
  show BitVec.ofInt 64 (n:Int)=_
  rw [BitVec.ofInt_natCast]
 have e2:BitVec.ofInt (IntKind.u64).bits 1=BitVec.ofNat 64 1:=rfl
 rw [e1,e2]
 have:((BitVec.ofNat 64 n &&& BitVec.ofNat 64 1):BitVec 64).toNat=n%2:=by
  rw [BitVec.toNat_and,BitVec.toNat_ofNat,BitVec.toNat_ofNat]
  rw [Nat.mod_eq_of_lt (by omega:n<2^64)]
  exact Nat.and_one_is_mod n
 show IntKind.wrap .u64 (((BitVec.ofNat 64 n &&& BitVec.ofNat 64 1):BitVec 64).toNat:Int)=_
 rw [this]
 simp only [IntKind.wrap,IntKind.signed,IntKind.bits]
 simp
 omega

theorem bit_word {a b c d:Int} (ha:InU a) (hb:InU b) (hc:InU c) (_:InU d) (s:Nat) (hs:s<64) :
  val a b c d/2^s%2=a/2^s%2∧val a b c d/2^(64+s)%2=b/2^s%2∧val a b c d/2^(128+s)%2=c/2^s%2∧val a b c d/2^(192+s)%2=d/2^s%2:=by
 have hp:(0:Int)<2^s:=Int.pow_pos (by omega)
 have split:∀ (x y:Int),(x+18446744073709551616*y)/2^s%2=x/2^s%2:=fun x y=>by
  have e:(18446744073709551616:Int)=2^s*(2*2^(63-s)):=by
   have:(2:Int)^s*(2*2^(63-s))=2^(s+(1+(63-s))):=by rw [Int.pow_add,Int.pow_add]; simp
   rw [this,show s+(1+(63-s))=64 by omega]
   decide
  rw [e,Int.mul_assoc,Int.mul_assoc,Int.add_mul_ediv_left _ _ (by omega),Int.add_mul_emod_self_left]
 have sh:∀ (k:Nat) (x:Int),x/2^(k+s)=x/2^k/2^s:=fun k x=>by
  rw [Int.pow_add,Int.ediv_ediv_of_nonneg (Int.le_of_lt (Int.pow_pos (by omega)))]
 have e1:val a b c d/2^64=b+18446744073709551616*(c+18446744073709551616*d):=by
  have:(2:Int)^64=18446744073709551616:=by decide
  rw [this]; unfold val; omega
 have e2:val a b c d/2^128=c+18446744073709551616*d:=by
  have:(2:Int)^128=340282366920938463463374607431768211456:=by decide
  rw [this]; unfold val; omega
 have e3:val a b c d/2^192=d+18446744073709551616*0:=by
  have:(2:Int)^192=6277101735386680763835789423207666416102355444464034512896:=by decide
  rw [this]; unfold val; omega
 refine ⟨?_,?_,?_,?_⟩
 ·have:val a b c d=a+18446744073709551616*(b+18446744073709551616*(c+18446744073709551616*d)):=by unfold val; omega
  rw [this]; exact split _ _
 ·rw [sh,e1]; exact split _ _
 ·rw [sh,e2]; exact split _ _
 ·rw [sh,e3]; exact split _ _

end Go.Ev

namespace Go.Ev

def pw (M x E:Int) (n:Nat):Int:=x^(E/2^n).toNat%M

theorem pw_step {M x E:Int} (hE:0≤E) (n:Nat) (h:E/2^n%2=1):pw M x E (n+1)*pw M x E (n+1)%M*x%M=pw M x E n:=by
 unfold pw
 have h0:0≤E/2^n:=Int.ediv_nonneg hE (Int.le_of_lt (Int.pow_pos (by omega)))
 have h1:E/2^(n+1)=E/2^n/2:=by
  rw [Int.pow_succ,← Int.ediv_ediv_of_nonneg (Int.le_of_lt (Int.pow_pos (by omega)))]
 have h2:(E/2^n).toNat=(E/2^(n+1)).toNat+(E/2^(n+1)).toNat+1:=by rw [h1]; omega
 rw [h2]
 generalize (E/2^(n+1)).toNat=k
 rw [Int.pow_succ,Int.pow_add,← Int.mul_emod,Int.mul_emod (x^k*x^k%M) x,Int.emod_emod_of_dvd _ (Int.dvd_refl _),← Int.mul_emod]

theorem pw_skip {M x E:Int} (hE:0≤E) (n:Nat) (h:E/2^n%2=0):pw M x E (n+1)*pw M x E (n+1)%M=pw M x E n:=by
 unfold pw
 have h0:0≤E/2^n:=Int.ediv_nonneg hE (Int.le_of_lt (Int.pow_pos (by omega)))
 have h1:E/2^(n+1)=E/2^n/2:=by
  rw [Int.pow_succ,← Int.ediv_ediv_of_nonneg (Int.le_of_lt (Int.pow_pos (by omega)))]
 have h2:(E/2^n).toNat=(E/2^(n+1)).toNat+(E/2^(n+1)).toNat:=by rw [h1]; omega
 rw [h2]
 generalize (E/2^(n+1)).toNat=k
 rw [Int.pow_add,← Int.mul_emod]

theorem shr_s (z:Int) {s:Nat} (hs:s<64):z.fdiv (2^min (Int.toNat (s:Int)) (IntKind.u64).bits)=z/2^s:=by
 have:min (Int.toNat (s:Int)) (IntKind.u64).bits=s:=by
  show min (Int.toNat (s:Int)) 64=s
  omega
 rw [this]
 exact Int.fdiv_eq_ediv_of_nonneg z (Int.le_of_lt (Int.pow_pos (by omega)))

theorem shr_in {z:Int} (hz:InU z) (s:Nat):InU (z/2^s):=by
 have hp:(0:Int)<2^s:=Int.pow_pos (by omega)
 refine ⟨Int.ediv_nonneg hz.1 (Int.le_of_lt hp),?_⟩
 have:=Int.ediv_le_self (2^s) hz.1
 omega

theorem i64_dec {s:Nat} (h:s<1000):IntKind.i64.wrap ((s:Int)-1)=(s:Int)-1:=by
 simp only [IntKind.wrap,IntKind.signed,IntKind.bits]
 simp
 omega

def PowI (x e0 e1 e2 e3:Int) (k:Nat) (e:Env) (m:Mem):Prop:=
 ∃ (n:Nat) (t0 t1 t2 t3:Nat),k=n∧n≤256 ∧
  e=[(6,.one (.int .i64 ((n:Int)-1))),(5,.one (.ptr (some (.loc 3 0)))),(4,.one (.ptr (some (.loc 2 0)))),(3,.one (.ptr (some (.loc 1 0)))),(2,.one (.ptr (some (.loc 0 0))))] ∧
  m=[some ⟨words x,t0,0,false⟩,some ⟨[u e0,u e1,u e2,u e3],t1,0,false⟩,some ⟨[u 0,u 0,u 0,u 0],t2,0,false⟩,some ⟨words (pw pp x (val e0 e1 e2 e3) n),t3,0,false⟩]

theorem power_fn {x E:Int} (hx:InW x) (hE:InW E):Fn PG f_fe_power [W x,W E] (W (x^E.toNat%pp)):=by
 obtain ⟨e0,e1,e2,e3,h0,h1,h2,h3,rfl⟩:=split4 hE
 simp only [W,words_val h0 h1 h2 h3]
 refine fn_go h_fe_power rfl (by kernel_rfl) (fun _=>by kernel_rfl) rfl rfl fun W0=>?_
 conv=>whnf
 refine ⟨_,(feOf_fn (n:=1) ⟨by omega,by omega⟩).2 _ _,rfl,?_⟩
 conv=>whnf
 refine .inr (loop_inv (gOk W0) (PowI x e0 e1 e2 e3) ?_ ?_)
 ·intro k e' m' hI
  obtain ⟨n,t0,t1,t2,t3,rfl,hn,rfl,rfl⟩:=hI
  cases k with
  | zero=>
   conv=>whnf
   have:pw pp x (val e0 e1 e2 e3) 0=x^(val e0 e1 e2 e3).toNat%pp:=by unfold pw; simp
   rw [← this]
   rfl
  | succ n=>
   have en:((n+1:Nat):Int)-1=n:=by omega
   rw [en]
   have hr:InW (pw pp x (val e0 e1 e2 e3) (n+1)):=by unfold pw pp; exact ⟨by omega,by omega⟩
   have hr2:InW (pw pp x (val e0 e1 e2 e3) (n+1)*pw pp x (val e0 e1 e2 e3) (n+1)%pp):=by unfold pp; exact ⟨by omega,by omega⟩
   conv=>whnf
   refine ⟨_,(feMul_fn hr hr).2 _ _,rfl,?_⟩
   have hq:∃ q s:Nat,q<4∧s<64∧n=64*q+s:=⟨n/64,n%64,by omega,by omega,by omega⟩
   obtain ⟨q,s,hq4,hs,rfl⟩:=hq
   have hdiv:IntKind.i64.wrap (Int.tdiv ((64*q+s:Nat):Int) 64)=q:=by
    have:Int.tdiv ((64*q+s:Nat):Int) 64=q:=by
     rw [Int.tdiv_eq_ediv_of_nonneg (by omega)]; omega
    rw [this]
    simp only [IntKind.wrap,IntKind.signed,IntKind.bits]
    simp
    omega
   have hmod:Int.tmod ((64*q+s:Nat):Int) 64=s:=by
    rw [Int.tmod_eq_emod_of_nonneg (by omega)]; omega
   have hbits:=bit_word h0 h1 h2 h3 s hs
   have hw:wr .i64 (((64*q+s:Nat):Int)-1)=.int .i64 (((64*q+s:Nat):Int)-1):=by
    simp only [wr,i64_dec (s:=64*q+s) (by omega)]
   conv=>whnf
   obtain rfl | rfl | rfl | rfl:q=0∨q=1∨q=2∨q=3:=by omega
   ·have hbv:val e0 e1 e2 e3/2^(64*0+s)%2=e0/2^s%2:=by
     rw [show 64*0+s=s by omega]
     exact hbits.1
    rw [hdiv]
    conv=>whnf
    rw [hmod,shr_s e0 hs,and1 (shr_in h0 s).1 (shr_in h0 s).2]
    split
    ·rename_i hb
     have hbit:val e0 e1 e2 e3/2^(64*0+s)%2=1:=by rw [hbv]; simpa using hb
     conv=>whnf
     refine ⟨_,(feMul_fn hr2 hx).2 _ _,rfl,?_⟩
     conv=>whnf
     rw [pw_step hE.1 _ hbit]
     refine ⟨64*0+s,_,_,Nat.lt_succ_self _,wk_of (by (repeat' apply And.intro)<;>first | trivial | rfl | exact congrArg (fun x=>some (TV.one x)) hw) (by (repeat' apply And.intro)<;>first | trivial | rfl) (Nat.le_refl _) (Nat.le_refl _),⟨64*0+s,t0,t1,t2,t3,rfl,by omega,rfl,rfl⟩⟩
    ·rename_i hb
     have hbit:val e0 e1 e2 e3/2^(64*0+s)%2=0:=by
      have hb:¬ e0/2^s%2=1:=by simpa using hb
      omega
     conv=>whnf
     rw [pw_skip hE.1 _ hbit]
     refine ⟨64*0+s,_,_,Nat.lt_succ_self _,wk_of (by (repeat' apply And.intro)<;>first | trivial | rfl | exact congrArg (fun x=>some (TV.one x)) hw) (by (repeat' apply And.intro)<;>first | trivial | rfl) (Nat.le_refl _) (Nat.le_refl _),⟨64*0+s,t0,t1,t2,t3,rfl,by omega,rfl,rfl⟩⟩
   ·have hbv:val e0 e1 e2 e3/2^(64*1+s)%2=e1/2^s%2:=by
     rw [show 64*1+s=64+s by omega]
     exact hbits.2.1
    rw [hdiv]
    conv=>whnf
    rw [hmod,shr_s e1 hs,and1 (shr_in h1 s).1 (shr_in h1 s).2]
    split
    ·rename_i hb
     have hbit:val e0 e1 e2 e3/2^(64*1+s)%2=1:=by rw [hbv]; simpa using hb
     conv=>whnf
     refine ⟨_,(feMul_fn hr2 hx).2 _ _,rfl,?_⟩
     conv=>whnf
     rw [pw_step hE.1 _ hbit]
     refine ⟨64*1+s,_,_,Nat.lt_succ_self _,wk_of (by (repeat' apply And.intro)<;>first | trivial | rfl | exact congrArg (fun x=>some (TV.one x)) hw) (by (repeat' apply And.intro)<;>first | trivial | rfl) (Nat.le_refl _) (Nat.le_refl _),⟨64*1+s,t0,t1,t2,t3,rfl,by omega,rfl,rfl⟩⟩
    ·rename_i hb
     have hbit:val e0 e1 e2 e3/2^(64*1+s)%2=0:=by
      have hb:¬ e1/2^s%2=1:=by simpa using hb
      omega
     conv=>whnf
     rw [pw_skip hE.1 _ hbit]
     refine ⟨64*1+s,_,_,Nat.lt_succ_self _,wk_of (by (repeat' apply And.intro)<;>first | trivial | rfl | exact congrArg (fun x=>some (TV.one x)) hw) (by (repeat' apply And.intro)<;>first | trivial | rfl) (Nat.le_refl _) (Nat.le_refl _),⟨64*1+s,t0,t1,t2,t3,rfl,by omega,rfl,rfl⟩⟩
   ·have hbv:val e0 e1 e2 e3/2^(64*2+s)%2=e2/2^s%2:=by
     rw [show 64*2+s=128+s by omega]
     exact hbits.2.2.1
    rw [hdiv]
    conv=>whnf
    rw [hmod,shr_s e2 hs,and1 (shr_in h2 s).1 (shr_in h2 s).2]
    split
    ·rename_i hb
     have hbit:val e0 e1 e2 e3/2^(64*2+s)%2=1:=by rw [hbv]; simpa using hb
     conv=>whnf
     refine ⟨_,(feMul_fn hr2 hx).2 _ _,rfl,?_⟩
     conv=>whnf
     rw [pw_step hE.1 _ hbit]
     refine ⟨64*2+s,_,_,Nat.lt_succ_self _,wk_of (by (repeat' apply And.intro)<;>first | trivial | rfl | exact congrArg (fun x=>some (TV.one x)) hw) (by (repeat' apply And.intro)<;>first | trivial | rfl) (Nat.le_refl _) (Nat.le_refl _),⟨64*2+s,t0,t1,t2,t3,rfl,by omega,rfl,rfl⟩⟩
    ·rename_i hb
     have hbit:val e0 e1 e2 e3/2^(64*2+s)%2=0:=by
      have hb:¬ e2/2^s%2=1:=by simpa using hb
      omega
     conv=>whnf
     rw [pw_skip hE.1 _ hbit]
     refine ⟨64*2+s,_,_,Nat.lt_succ_self _,wk_of (by (repeat' apply And.intro)<;>first | trivial | rfl | exact congrArg (fun x=>some (TV.one x)) hw) (by (repeat' apply And.intro)<;>first | trivial | rfl) (Nat.le_refl _) (Nat.le_refl _),⟨64*2+s,t0,t1,t2,t3,rfl,by omega,rfl,rfl⟩⟩
   ·have hbv:val e0 e1 e2 e3/2^(64*3+s)%2=e3/2^s%2:=by
     rw [show 64*3+s=192+s by omega]
     exact hbits.2.2.2
    rw [hdiv]
    conv=>whnf
    rw [hmod,shr_s e3 hs,and1 (shr_in h3 s).1 (shr_in h3 s).2]
    split
    ·rename_i hb
     have hbit:val e0 e1 e2 e3/2^(64*3+s)%2=1:=by rw [hbv]; simpa using hb
     conv=>whnf
     refine ⟨_,(feMul_fn hr2 hx).2 _ _,rfl,?_⟩
     conv=>whnf
     rw [pw_step hE.1 _ hbit]
     refine ⟨64*3+s,_,_,Nat.lt_succ_self _,wk_of (by (repeat' apply And.intro)<;>first | trivial | rfl | exact congrArg (fun x=>some (TV.one x)) hw) (by (repeat' apply And.intro)<;>first | trivial | rfl) (Nat.le_refl _) (Nat.le_refl _),⟨64*3+s,t0,t1,t2,t3,rfl,by omega,rfl,rfl⟩⟩
    ·rename_i hb
     have hbit:val e0 e1 e2 e3/2^(64*3+s)%2=0:=by
      have hb:¬ e3/2^s%2=1:=by simpa using hb
      omega
     conv=>whnf
     rw [pw_skip hE.1 _ hbit]
     refine ⟨64*3+s,_,_,Nat.lt_succ_self _,wk_of (by (repeat' apply And.intro)<;>first | trivial | rfl | exact congrArg (fun x=>some (TV.one x)) hw) (by (repeat' apply And.intro)<;>first | trivial | rfl) (Nat.le_refl _) (Nat.le_refl _),⟨64*3+s,t0,t1,t2,t3,rfl,by omega,rfl,rfl⟩⟩
 ·have h256:pw pp x (val e0 e1 e2 e3) 256=1:=by
   unfold pw
   have p256:(2:Int)^256=115792089237316195423570985008687907853269984665640564039457584007913129639936:=by decide
   have:val e0 e1 e2 e3/2^256=0:=Int.ediv_eq_zero_of_lt hE.1 (by rw [p256]; exact hE.2)
   rw [this]
   show x^0%pp=1
   rw [Int.pow_zero]
   decide
  refine ⟨256,_,_,wk_of (by (repeat' apply And.intro)<;>first | trivial | rfl) (by (repeat' apply And.intro)<;>first | trivial | rfl) (Nat.le_refl _) (Nat.le_refl _),⟨256,_,_,_,_,rfl,by omega,rfl,by rw [h256]; rfl⟩⟩
theorem feInv_fn {x:Int} (hx:InW x):Fn PG f_fe_Inv [W x] (W (x^(pp-2).toNat%pp)):=by
 refine fn_go h_fe_Inv rfl (by kernel_rfl) (fun _=>by kernel_rfl) rfl rfl fun W0=>?_
 conv=>whnf
 refine ⟨_,prime_fn.2 _ _,rfl,?_⟩
 conv=>whnf
 refine ⟨_,(feOf_fn (n:=2) ⟨by omega,by omega⟩).2 _ _,rfl,?_⟩
 conv=>whnf
 have h2:InW pp:=by unfold pp; exact ⟨by omega,by omega⟩
 refine ⟨_,(minus_fn (y:=2) h2 ⟨by omega,by omega⟩).2 _ _,rfl,?_⟩
 conv=>whnf
 have e1:(pp-2)%115792089237316195423570985008687907853269984665640564039457584007913129639936=pp-2:=by unfold pp; omega
 rw [e1]
 refine ⟨_,(power_fn (E:=pp-2) hx (by unfold pp; exact ⟨by omega,by omega⟩)).2 _ _,rfl,?_⟩
 conv=>whnf
 rfl

theorem feOdd_fn {x:Int} (hx:InW x):Fn PG f_fe_Odd [W x] (.one (.bool (decide (x%pp%2=1)))):=by
 refine fn_go h_fe_Odd rfl (by kernel_rfl) (fun _=>by kernel_rfl) rfl rfl fun W0=>?_
 conv=>whnf
 refine ⟨_,(norm_fn hx).2 _ _,rfl,?_⟩
 conv=>whnf
 have e:x%pp%18446744073709551616%2=x%pp%2:=by omega
 rw [and1 (by omega) (by omega),e]
 show TV.one (.bool (x%pp%2==1))=_
 congr 2

theorem cast_args {P:Program} {W0:World} {f:FuncId} {A B:List TV} {m:Mem} {K:TV→Mem→Prop} (h:A=B) (hc:CALL P W0 f B m K):CALL P W0 f A m K:=h ▸ hc

def rootP (x:Int):Int:=x^((pp+1)/4).toNat%pp

def sqrtP (x:Int):Int×Bool:=
 if rootP x*rootP x%pp=x%pp then (if rootP x%2=1 then -rootP x%pp else rootP x,true) else (0,false)

theorem feSqrt_fn {x:Int} (hx:InW x):Fn PG f_fe_Sqrt [W x] (.tup [.agg (words (sqrtP x).1),.one (.bool (sqrtP x).2)]):=by
 refine fn_go h_fe_Sqrt rfl (by kernel_rfl) (fun _=>by kernel_rfl) rfl rfl fun W0=>?_
 conv=>whnf
 refine ⟨_,prime_fn.2 _ _,rfl,?_⟩
 conv=>whnf
 refine ⟨_,(feOf_fn (n:=1) ⟨by omega,by omega⟩).2 _ _,rfl,?_⟩
 conv=>whnf
 have h2:InW pp:=by unfold pp; exact ⟨by omega,by omega⟩
 refine ⟨_,(plus_fn (y:=1) h2 ⟨by omega,by omega⟩).2 _ _,rfl,?_⟩
 conv=>whnf
 refine .inl ⟨5,?_⟩
 conv=>whnf
 refine ⟨_,cast_args (B:=[W x,W ((pp+1)/4)]) (by kernel_rfl) ((power_fn (E:=(pp+1)/4) hx (by unfold pp; exact ⟨by omega,by omega⟩)).2 _ _),rfl,?_⟩
 have hr:x^((pp+1)/4).toNat%pp=rootP x:=rfl
 rw [hr]
 have hrw:InW (rootP x):=by rw [← hr]; unfold pp; exact ⟨by omega,by omega⟩
 conv=>whnf
 refine ⟨_,(feMul_fn hrw hrw).2 _ _,rfl,?_⟩
 conv=>whnf
 refine ⟨_,(norm_fn hx).2 _ _,rfl,?_⟩
 conv=>whnf
 have hm:∀ z:Int,InW (z%pp):=fun z=>by unfold pp; exact ⟨by omega,by omega⟩
 rw [weq (hm _) (hm _)]
 unfold sqrtP
 split
 ·rename_i h
  have h:¬ (rootP x*rootP x%pp=x%pp):=by simpa using h
  rw [if_neg h]
  conv=>whnf
  rfl
 ·rename_i h
  have h:rootP x*rootP x%pp=x%pp:=by simpa using h
  rw [if_pos h]
  conv=>whnf
  refine ⟨_,(feOdd_fn hrw).2 _ _,rfl,?_⟩
  conv=>whnf
  have e:rootP x%pp=rootP x:=by unfold rootP; exact Int.emod_emod_of_dvd _ (Int.dvd_refl _)
  rw [e]
  split
  ·rename_i h2
   have h2:=of_decide_eq_true h2
   rw [if_pos h2]
   conv=>whnf
   refine ⟨_,(feNeg_fn hrw).2 _ _,rfl,?_⟩
   conv=>whnf
   rfl
  ·rename_i h2
   have h2:=of_decide_eq_false h2
   rw [if_neg h2]
   conv=>whnf
   rfl

end Go.Ev

namespace Go.Ev

def pmod (M x:Nat):Nat→Nat→Nat
 | 0,_=>1%M
 | k+1,e=>match e%2 with
  | 0=>pmod M x k (e/2)*pmod M x k (e/2)%M
  | _=>pmod M x k (e/2)*pmod M x k (e/2)%M*x%M

theorem pmod_eq (M x:Nat):∀ k e,e<2^k→pmod M x k e=x^e%M
 | 0,e,h=>by
  have:e=0:=by simpa using h
  subst this; rfl
 | k+1,e,h=>by
  have ih:=pmod_eq M x k (e/2) (by rw [Nat.pow_succ] at h; omega)
  unfold pmod
  rw [ih]
  generalize hq:e/2=q
  split
  ·rename_i h0
   have:e=q+q:=by omega
   rw [this,Nat.pow_add,← Nat.mul_mod]
  ·rename_i h0
   have h0:¬ e%2=0:=h0
   have:e=q+q+1:=by omega
   rw [this,Nat.pow_succ,Nat.pow_add,← Nat.mul_mod,Nat.mul_mod (x^q*x^q%M) x,Nat.mod_mod,← Nat.mul_mod]

end Go.Ev

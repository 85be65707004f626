import Derived.Test.YthmdbgdagnhheaaGreatDoorFe0
import Derived.Test.YthmdbgdagnhheaaGreatDoorFeA
namespace Go.Ev

theorem swp_cut {G:Cfg} {a b:Code} {Q:Exit→Env→Mem→Prop} {e:Env} {m:Mem}
  (h:∀ K:Exit→Env→Mem→Prop,(∀ e' m',swp G b Q e' m'→K .normal e' m')→(∀ e' m',Q .ret e' m'→K .ret e' m')→(∀ i e' m',Q (.exit i) e' m'→K (.exit i) e' m')→swp G a K e m):swp G (.seq a b) Q e m:=
 h _ (fun _ _ h=>h) (fun _ _ h=>h) (fun _ _ _ h=>h)

end Go.Ev

namespace Go.Ev

structure MD where
 m0:Int
 m1:Int
 m2:Int
 m3:Int
 l0:Int
 l1:Int
 l2:Int

def MD.M (D:MD):Int:=val D.m0 D.m1 D.m2 D.m3
def MD.L (D:MD):Int:=D.l0+18446744073709551616*D.l1+340282366920938463463374607431768211456*D.l2
def MD.tv (D:MD):TV:=.agg [u D.m0,u D.m1,u D.m2,u D.m3,u D.l0,u D.l1,u D.l2]

structure MD.Ok (D:MD):Prop where
 m0:InU D.m0
 m1:InU D.m1
 m2:InU D.m2
 m3:InU D.m3
 l0:InU D.l0
 l1:InU D.l1
 l2:D.l2=0∨D.l2=1
 sum:D.M+D.L=115792089237316195423570985008687907853269984665640564039457584007913129639936

def mdP:MD:=⟨18446744069414583343,18446744073709551615,18446744073709551615,18446744073709551615,4294968273,0,0⟩
def mdN:MD:=⟨13822214165235122497,13451932020343611451,18446744073709551614,18446744073709551615,4624529908474429119,4994812053365940164,1⟩

theorem mdP_ok:mdP.Ok:=⟨by unfold mdP; decide,by unfold mdP; decide,by unfold mdP; decide,by unfold mdP; decide,by unfold mdP; decide,by unfold mdP; decide,.inl rfl,by decide⟩
theorem mdN_ok:mdN.Ok:=⟨by unfold mdN; decide,by unfold mdN; decide,by unfold mdN; decide,by unfold mdN; decide,by unfold mdN; decide,by unfold mdN; decide,.inr rfl,by decide⟩
theorem mdP_M:mdP.M=pp:=by decide

def nn:Int:=115792089237316195423570985008687907852837564279074904382605163141518161494337
theorem mdN_M:mdN.M=nn:=by decide

theorem refP_fn:Fn PG f_ref03_P [] mdP.tv:=by
 refine fn_go h_ref03_P rfl (by kernel_rfl) (fun _=>by kernel_rfl) rfl rfl fun W0=>?_
 conv=>whnf
 kernel_rfl

theorem refN_fn:Fn PG f_ref03_N [] mdN.tv:=by
 refine fn_go h_ref03_N rfl (by kernel_rfl) (fun _=>by kernel_rfl) rfl rfl fun W0=>?_
 conv=>whnf
 kernel_rfl

theorem refSmall_fn {n:Int} (hn:InU n):Fn PG f_ref03_Small [.one (u n)] (W n):=by
 refine fn_go h_ref03_Small rfl (by kernel_rfl) (fun _=>by kernel_rfl) rfl rfl fun W0=>?_
 conv=>whnf
 have z:InU 0:=⟨by omega,by omega⟩
 have h:n=val n 0 0 0:=by unfold val; omega
 have h2:=words_val hn z z z
 rw [← h] at h2
 show TV.agg [u n,u 0,u 0,u 0]=W n
 rw [W,h2]

theorem refFe_fn (x:Int):Fn PG f_ref03_Fe [W x] (W x):=by
 refine fn_go h_ref03_Fe rfl (by kernel_rfl) (fun _=>by kernel_rfl) rfl rfl fun W0=>?_
 conv=>whnf
 rfl

theorem refScalar_fn (x:Int):Fn PG f_ref03_Scalar [W x] (W x):=by
 refine fn_go h_ref03_Scalar rfl (by kernel_rfl) (fun _=>by kernel_rfl) rfl rfl fun W0=>?_
 conv=>whnf
 rfl

theorem refOf_fn (x:Int):Fn PG f_ref03_Of [W x] (W x):=by
 refine fn_go h_ref03_Of rfl (by kernel_rfl) (fun _=>by kernel_rfl) rfl rfl fun W0=>?_
 conv=>whnf
 rfl

theorem refOfScalar_fn (x:Int):Fn PG f_ref03_OfScalar [W x] (W x):=by
 refine fn_go h_ref03_OfScalar rfl (by kernel_rfl) (fun _=>by kernel_rfl) rfl rfl fun W0=>?_
 conv=>whnf
 rfl

theorem refMinus_fn {x y:Int} (hx:InW x) (hy:InW y):Fn PG f_ref03_minus [W x,W y] (W ((x-y)%115792089237316195423570985008687907853269984665640564039457584007913129639936)):=by
 obtain ⟨a0,a1,a2,a3,h0,h1,h2,h3,rfl⟩:=split4 hx
 obtain ⟨b0,b1,b2,b3,g0,g1,g2,g3,rfl⟩:=split4 hy
 simp only [W,words_val h0 h1 h2 h3,words_val g0 g1 g2 g3]
 refine fn_go h_ref03_minus rfl (by kernel_rfl) (fun _=>by kernel_rfl) rfl rfl fun W0=>?_
 conv=>whnf
 refine .inl ⟨5,?_⟩
 conv=>whnf
 refine ⟨by omega,?_⟩
 intro s0 c0 e0 l0 u0 p0 q0
 conv=>whnf
 refine ⟨by omega,?_⟩
 intro s1 c1 e1 l1 u1 p1 q1
 conv=>whnf
 refine ⟨by omega,?_⟩
 intro s2 c2 e2 l2 u2 p2 q2
 conv=>whnf
 refine ⟨by omega,?_⟩
 intro s3 c3 e3 l3 u3 p3 q3
 conv=>whnf
 have hs:(val a0 a1 a2 a3-val b0 b1 b2 b3)%115792089237316195423570985008687907853269984665640564039457584007913129639936=val s0 s1 s2 s3:=by unfold val; omega
 rw [hs,words_val ⟨l0,u0⟩ ⟨l1,u1⟩ ⟨l2,u2⟩ ⟨l3,u3⟩]
 rfl

theorem refPlus_fn {x y:Int} (hx:InW x) (hy:InW y):Fn PG f_ref03_add [W x,W y] (W ((x+y)%115792089237316195423570985008687907853269984665640564039457584007913129639936)):=by
 obtain ⟨a0,a1,a2,a3,h0,h1,h2,h3,rfl⟩:=split4 hx
 obtain ⟨b0,b1,b2,b3,g0,g1,g2,g3,rfl⟩:=split4 hy
 simp only [W,words_val h0 h1 h2 h3,words_val g0 g1 g2 g3]
 refine fn_go h_ref03_add rfl (by kernel_rfl) (fun _=>by kernel_rfl) rfl rfl fun W0=>?_
 conv=>whnf
 refine .inl ⟨5,?_⟩
 conv=>whnf
 refine ⟨by omega,?_⟩
 intro s0 c0 e0 l0 u0 p0
 conv=>whnf
 refine ⟨by omega,?_⟩
 intro s1 c1 e1 l1 u1 p1
 conv=>whnf
 refine ⟨by omega,?_⟩
 intro s2 c2 e2 l2 u2 p2
 conv=>whnf
 refine ⟨by omega,?_⟩
 intro s3 c3 e3 l3 u3 p3
 conv=>whnf
 have hs:(val a0 a1 a2 a3+val b0 b1 b2 b3)%115792089237316195423570985008687907853269984665640564039457584007913129639936=val s0 s1 s2 s3:=by unfold val; omega
 rw [hs,words_val ⟨l0,u0⟩ ⟨l1,u1⟩ ⟨l2,u2⟩ ⟨l3,u3⟩]
 rfl

theorem refBelow_fn {x y:Int} (hx:InW x) (hy:InW y):Fn PG f_ref03_below [W x,W y] (.one (.bool (decide (x<y)))):=by
 obtain ⟨a0,a1,a2,a3,h0,h1,h2,h3,rfl⟩:=split4 hx
 obtain ⟨b0,b1,b2,b3,g0,g1,g2,g3,rfl⟩:=split4 hy
 simp only [W,words_val h0 h1 h2 h3,words_val g0 g1 g2 g3]
 refine fn_go h_ref03_below rfl (by kernel_rfl) (fun _=>by kernel_rfl) rfl rfl fun W0=>?_
 conv=>whnf
 refine .inl ⟨5,?_⟩
 conv=>whnf
 split
 ·rename_i k3
  have k3:a3≠b3:=by simpa using k3
  conv=>whnf
  have:decide (val a0 a1 a2 a3<val b0 b1 b2 b3)=decide (a3<b3):=by
   unfold val; apply decide_eq_decide.2; omega
  rw [this]
  rfl
 ·rename_i k3
  have k3:a3=b3:=by simpa using k3
  conv=>whnf
  split
  ·rename_i k2
   have k2:a2≠b2:=by simpa using k2
   conv=>whnf
   have:decide (val a0 a1 a2 a3<val b0 b1 b2 b3)=decide (a2<b2):=by
    unfold val; apply decide_eq_decide.2; omega
   rw [this]
   rfl
  ·rename_i k2
   have k2:a2=b2:=by simpa using k2
   conv=>whnf
   split
   ·rename_i k1
    have k1:a1≠b1:=by simpa using k1
    conv=>whnf
    have:decide (val a0 a1 a2 a3<val b0 b1 b2 b3)=decide (a1<b1):=by
     unfold val; apply decide_eq_decide.2; omega
    rw [this]
    rfl
   ·rename_i k1
    have k1:a1=b1:=by simpa using k1
    conv=>whnf
    split
    ·rename_i k0
     have k0:a0≠b0:=by simpa using k0
     conv=>whnf
     have:decide (val a0 a1 a2 a3<val b0 b1 b2 b3)=decide (a0<b0):=by
      unfold val; apply decide_eq_decide.2; omega
     rw [this]
     rfl
    ·rename_i k0
     have k0:a0=b0:=by simpa using k0
     conv=>whnf
     have:decide (val a0 a1 a2 a3<val b0 b1 b2 b3)=false:=by
      unfold val; apply decide_eq_false; omega
     rw [this]
     rfl

theorem MD.Ok.inW {D:MD} (h:D.Ok):InW D.M:=by
 have:=h.m0; have:=h.m1; have:=h.m2; have:=h.m3
 unfold MD.M val
 exact ⟨by omega,by omega⟩

theorem MD.Ok.words {D:MD} (h:D.Ok):Ev.words D.M=[u D.m0,u D.m1,u D.m2,u D.m3]:=words_val h.m0 h.m1 h.m2 h.m3

theorem MD.Ok.big {D:MD} (h:D.Ok):57896044618658097711785492504343953926634992332820282019728792003956564819968<D.M:=by
 have h1:=h.sum
 have:=h.l0; have:=h.l1
 have h2:=h.l2
 unfold MD.L at h1
 omega

theorem refNorm_fn {D:MD} (hD:D.Ok) {x:Int} (hx:InW x):Fn PG f_ref03_Norm [D.tv,W x] (W (x%D.M)):=by
 refine fn_go h_ref03_Norm rfl (by kernel_rfl) (fun _=>by kernel_rfl) rfl rfl fun W0=>?_
 have hM:=hD.inW
 have hw:W D.M=.agg [u D.m0,u D.m1,u D.m2,u D.m3]:=by unfold W; rw [hD.words]
 have hb:=hD.big
 have hbelow:=refBelow_fn hx hM
 have hminus:=refMinus_fn hx hM
 rw [hw] at hbelow hminus
 conv=>whnf
 refine ⟨_,hbelow.2 _ _,rfl,?_⟩
 conv=>whnf
 split
 ·rename_i h
  have h:=of_decide_eq_true h
  conv=>whnf
  have:x%D.M=x:=Int.emod_eq_of_lt hx.1 h
  rw [this]
  rfl
 ·rename_i h
  have h:=of_decide_eq_false h
  conv=>whnf
  refine ⟨_,hminus.2 _ _,rfl,?_⟩
  conv=>whnf
  have e:x%D.M=(x-D.M)%115792089237316195423570985008687907853269984665640564039457584007913129639936:=by
   generalize D.M=M at *
   rw [← Int.sub_emod_right x M,Int.emod_eq_of_lt (by omega) (by omega),Int.emod_eq_of_lt (by omega) (by omega)]
  rw [e]
  rfl

end Go.Ev

namespace Go.Ev

def or2 (a b:Int):Int:=(a.toNat ||| b.toNat:Nat)

theorem or_u {a b:Int} (ha:InU a) (hb:InU b):(IntKind.u64).wrap ((BitVec.ofInt (IntKind.u64).bits a ||| BitVec.ofInt (IntKind.u64).bits b).toNat:Int)=or2 a b∧InU (or2 a b)∧(or2 a b=0↔a=0∧b=0):=by
 obtain ⟨n,rfl⟩:=Int.eq_ofNat_of_zero_le ha.1
 obtain ⟨m,rfl⟩:=Int.eq_ofNat_of_zero_le hb.1
 have hn:n<2^64:=by have:=ha.2; omega
 have hm:m<2^64:=by have:=hb.2; omega
 have hlt:n ||| m<2^64:=Nat.or_lt_two_pow hn hm
 have e:(BitVec.ofInt (IntKind.u64).bits (n:Int) ||| BitVec.ofInt (IntKind.u64).bits (m:Int)).toNat=n ||| m:=by
  show (BitVec.ofInt 64 (n:Int) ||| BitVec.ofInt 64 (m:Int)).toNat=n ||| m
  rw [BitVec.toNat_or,BitVec.ofInt_natCast,BitVec.ofInt_natCast,BitVec.toNat_ofNat,BitVec.toNat_ofNat,Nat.mod_eq_of_lt hn,Nat.mod_eq_of_lt hm]
 rw [e]
 refine ⟨?_,⟨by unfold or2; simp,by unfold or2; simp; omega⟩,?_⟩
 ·show ((n ||| m:Nat):Int)%18446744073709551616=_
  unfold or2
  simp only [Int.toNat_natCast]
  omega
 ·unfold or2
  simp only [Int.toNat_natCast,Int.natCast_eq_zero,Nat.or_eq_zero_iff]
end Go.Ev

namespace Go.Ev

def val8 (w0 w1 w2 w3 w4 w5 w6 w7:Int):Int:=val w0 w1 w2 w3+115792089237316195423570985008687907853269984665640564039457584007913129639936*val w4 w5 w6 w7

def dcells (D:MD):List Sc:=[u D.m0,u D.m1,u D.m2,u D.m3,u D.l0,u D.l1,u D.l2]

def foldB:Nat→Int
 | 0=>0
 | 1=>21778071482940061661655974875633165533184
 | 2=>115792089237316195423570985008687907864159020407110594870285571445729712406528
 | 3=>1852673427797059126777135760139006525652319754650249024631321344126610074238976
 | 4=>157608024785577916849116160400574455220318957081861786671793173616982887085988842445657065019539662563226511961227264
 | _=>13407807929942597099574024998205846127479365820592393377723561443721764030073546976801874298166903427690031858186486050853753882811946569946433649006084096

def hp (w4 w5 w6 w7:Int):Nat→Int
 | 0=>0
 | 1=>w4
 | 2=>w4+18446744073709551616*w5
 | 3=>w4+18446744073709551616*w5+340282366920938463463374607431768211456*w6
 | _=>val w4 w5 w6 w7

def q64:Nat→Int
 | 0=>1
 | 1=>18446744073709551616
 | 2=>340282366920938463463374607431768211456
 | 3=>6277101735386680763835789423207666416102355444464034512896
 | 4=>115792089237316195423570985008687907853269984665640564039457584007913129639936
 | 5=>2135987035920910082395021706169552114602704522356652769947041607822219725780640550022962086936576
 | 6=>39402006196394479212279040100143613805079739270465446667948293404245721771497210611414266254884915640806627990306816
 | 7=>726838724295606890549323807888004534353641360687318060281490199180639288113397923326191050713763565560762521606266177933534601628614656
 | _=>13407807929942597099574024998205846127479365820592393377723561443721764030073546976801874298166903427690031858186486050853753882811946569946433649006084096

abbrev In8 (w0 w1 w2 w3 w4 w5 w6 w7:Int):Prop:=InU w0∧InU w1∧InU w2∧InU w3∧InU w4∧InU w5∧InU w6∧InU w7

def env3:Env:=[(4,.one (.ptr (some (.loc 2 0)))),(3,.one (.ptr (some (.loc 1 0)))),(2,.one (.ptr (some (.loc 0 0))))]
def mem3 (D:MD) (w0 w1 w2 w3 w4 w5 w6 w7:Int) (t0 t1 t2:Nat) (m:Mem):Mem:=some ⟨dcells D,t0,0,false⟩::some ⟨[u w0,u w1,u w2,u w3,u w4,u w5,u w6,u w7],t1,0,false⟩::some ⟨[u 0,u 0,u 0,u 0],t2,0,false⟩::m

def FoldI (D:MD) (V:Int) (k:Nat) (e:Env) (m:Mem):Prop:=
 ∃ (w0 w1 w2 w3 w4 w5 w6 w7:Int) (t0 t1 t2:Nat),In8 w0 w1 w2 w3 w4 w5 w6 w7∧1≤k∧k≤5∧val8 w0 w1 w2 w3 w4 w5 w6 w7%D.M=V%D.M∧val8 w0 w1 w2 w3 w4 w5 w6 w7<foldB k∧e=env3∧m=mem3 D w0 w1 w2 w3 w4 w5 w6 w7 t0 t1 t2 []

def MidI (D:MD) (w0 w1 w2 w3 w4 w5 w6 w7:Int) (k:Nat) (e:Env) (m:Mem):Prop:=
 ∃ (i:Nat) (r0 r1 r2 r3 r4 r5 r6 r7:Int) (t0 t1 t2 t3:Nat),i≤4∧k=4-i∧In8 r0 r1 r2 r3 r4 r5 r6 r7∧val8 r0 r1 r2 r3 r4 r5 r6 r7=val w0 w1 w2 w3+hp w4 w5 w6 w7 i*D.L ∧
  e=(7,.one (.int .i64 i))::(5,.one (.ptr (some (.loc 3 0))))::env3∧m=mem3 D w0 w1 w2 w3 w4 w5 w6 w7 t0 t1 t2 [some ⟨[u r0,u r1,u r2,u r3,u r4,u r5,u r6,u r7],t3,0,false⟩]

def CarI (D:MD) (w0 w1 w2 w3 w4 w5 w6 w7:Int) (T:Int) (i:Nat) (k:Nat) (e:Env) (m:Mem):Prop:=
 ∃ (j:Nat) (c:Int) (r0 r1 r2 r3 r4 r5 r6 r7:Int) (t0 t1 t2 t3:Nat),3≤j∧j≤8∧k=8-j∧In8 r0 r1 r2 r3 r4 r5 r6 r7∧InU c∧val8 r0 r1 r2 r3 r4 r5 r6 r7+q64 j*c=T ∧
  e=(16,.one (.int .i64 j))::(8,.one (u c))::(7,.one (.int .i64 i))::(5,.one (.ptr (some (.loc 3 0))))::env3∧m=mem3 D w0 w1 w2 w3 w4 w5 w6 w7 t0 t1 t2 [some ⟨[u r0,u r1,u r2,u r3,u r4,u r5,u r6,u r7],t3,0,false⟩]

theorem MD.Ok.l2' {D:MD} (h:D.Ok):InU D.l2:=by
 have:=h.l2
 exact ⟨by omega,by omega⟩

theorem MD.Ok.L {D:MD} (h:D.Ok):0≤D.L∧D.L<680564733841876926926749214863536422912:=by
 have:=h.l0; have:=h.l1; have:=h.l2
 unfold MD.L
 exact ⟨by omega,by omega⟩

theorem mul_L (D:MD) (w:Int):w*D.L=w*D.l0+18446744073709551616*(w*D.l1)+340282366920938463463374607431768211456*(w*D.l2):=by
 unfold MD.L
 rw [Int.mul_add,Int.mul_add,Int.mul_left_comm,Int.mul_left_comm w]

theorem hp_succ (D:MD) (w4 w5 w6 w7:Int):hp w4 w5 w6 w7 0*D.L=0∧hp w4 w5 w6 w7 1*D.L=hp w4 w5 w6 w7 0*D.L+w4*D.L∧hp w4 w5 w6 w7 2*D.L=hp w4 w5 w6 w7 1*D.L+18446744073709551616*(w5*D.L) ∧
  hp w4 w5 w6 w7 3*D.L=hp w4 w5 w6 w7 2*D.L+340282366920938463463374607431768211456*(w6*D.L)∧hp w4 w5 w6 w7 4*D.L=hp w4 w5 w6 w7 3*D.L+6277101735386680763835789423207666416102355444464034512896*(w7*D.L):=by
 unfold hp val
 simp only [Int.add_mul,Int.mul_assoc,Int.zero_mul]
 refine ⟨trivial,by omega,trivial,trivial,trivial⟩

theorem hp_bound {D:MD} (hD:D.Ok) {w0 w1 w2 w3 w4 w5 w6 w7:Int} (hw:In8 w0 w1 w2 w3 w4 w5 w6 w7) {T:Int} {i:Nat} (hi:i≤4) (h:T=val w0 w1 w2 w3+hp w4 w5 w6 w7 i*D.L):T<13407807929942597099574024998205846127479365820592393377723561443721764030073546976801874298166903427690031858186486050853753882811946569946433649006084096:=by
 obtain ⟨h0,h1,h2,h3,h4,h5,h6,h7⟩:=hw
 have hL:=hD.L
 have a:0≤hp w4 w5 w6 w7 i∧hp w4 w5 w6 w7 i<115792089237316195423570985008687907853269984665640564039457584007913129639936:=by
  obtain rfl | rfl | rfl | rfl | rfl:i=0∨i=1∨i=2∨i=3∨i=4:=by omega
  all_goals simp only [hp,val]
  all_goals exact ⟨by omega,by omega⟩
 have:=Int.mul_le_mul_of_nonneg_left (Int.le_of_lt hL.2) a.1
 have:val w0 w1 w2 w3<115792089237316195423570985008687907853269984665640564039457584007913129639936:=by unfold val; omega
 omega

def loopsOf:Code→List Code
 | .seq a b=>loopsOf a++loopsOf b
 | .cond _ a b=>loopsOf a++loopsOf b
 | .block _ b=>loopsOf b
 | .loop b=>b::loopsOf b
 | _=>[]

def lp (f:Func) (n:Nat):Code:=match (loopsOf (bodyOf f))[n]? with | some c=>c | none=>.skip

set_option maxHeartbeats 4000000 in
theorem mid0 {D:MD} (hD:D.Ok) {w0 w1 w2 w3 w4 w5 w6 w7 r0 r1 r2 r3 r4 r5 r6 r7:Int} {t0 t1 t2 t3:Nat} (hw:In8 w0 w1 w2 w3 w4 w5 w6 w7) (hr:In8 r0 r1 r2 r3 r4 r5 r6 r7) (hE0:val8 r0 r1 r2 r3 r4 r5 r6 r7=val w0 w1 w2 w3+hp w4 w5 w6 w7 0*D.L) (W0:World) (Q:Exit→Env→Mem→Prop) :
  swp (GG W0) (lp F_ref03_fold 2) (fun x e1 m1=>match x with
   | .normal=>∃ j e2 m2,j<4-0∧Wk (mem3 D w0 w1 w2 w3 w4 w5 w6 w7 t0 t1 t2 [some ⟨[u r0,u r1,u r2,u r3,u r4,u r5,u r6,u r7],t3,0,false⟩]).length e1 m1 e2 m2∧MidI D w0 w1 w2 w3 w4 w5 w6 w7 j e2 m2
   | x=>Q x e1 m1) ((7,.one (.int .i64 (0:Nat)))::(5,.one (.ptr (some (.loc 3 0))))::env3) (mem3 D w0 w1 w2 w3 w4 w5 w6 w7 t0 t1 t2 [some ⟨[u r0,u r1,u r2,u r3,u r4,u r5,u r6,u r7],t3,0,false⟩]):=by
 obtain ⟨hw0,hw1,hw2,hw3,hw4,hw5,hw6,hw7⟩:=hw
 obtain ⟨hr0,hr1,hr2,hr3,hr4,hr5,hr6,hr7⟩:=hr
 have z0:InU 0:=⟨by omega,by omega⟩
 conv=>whnf
 refine .inl ⟨4,?_⟩
 conv=>whnf
 refine ⟨⟨hw4.1,hw4.2,hD.l0.1,hD.l0.2⟩,?_⟩
 intro hi lo e0 a1 a2 a3 a4 a5
 conv=>whnf
 refine ⟨⟨a3,hr0.1,Int.le_refl _,Int.zero_le_ofNat 1⟩,?_⟩
 intro x k e1 a6 a7 a8
 conv=>whnf
 refine ⟨⟨a6,Int.le_refl _,Int.le_refl _,Int.zero_le_ofNat 1⟩,?_⟩
 intro y0 l e2 g00 g01 a9
 obtain ⟨c0,d0,f0⟩:=mac e0 a1 a3 a4 a5 hr0 z0 e1 a6 a7 a8 e2 g00 g01 a9
 obtain ⟨q0,hq0⟩:∃ q,q=hi+k+l:=⟨_,rfl⟩
 rw [← hq0] at d0 f0
 clear e0 a1 a2 a3 a4 a5 e1 a6 a7 a8 e2 a9
 conv=>whnf
 refine ⟨⟨hw4.1,hw4.2,hD.l1.1,hD.l1.2⟩,?_⟩
 intro hi lo e0 a1 a2 a3 a4 a5
 conv=>whnf
 refine ⟨⟨a3,hr1.1,Int.le_refl _,Int.zero_le_ofNat 1⟩,?_⟩
 intro x k e1 a6 a7 a8
 conv=>whnf
 rw [c0]
 rw [← hq0]
 refine ⟨⟨a6,f0.1,Int.le_refl _,Int.zero_le_ofNat 1⟩,?_⟩
 intro y1 l e2 g10 g11 a9
 obtain ⟨c1,d1,f1⟩:=mac e0 a1 a3 a4 a5 hr1 f0 e1 a6 a7 a8 e2 g10 g11 a9
 obtain ⟨q1,hq1⟩:∃ q,q=hi+k+l:=⟨_,rfl⟩
 rw [← hq1] at d1 f1
 clear e0 a1 a2 a3 a4 a5 e1 a6 a7 a8 e2 a9
 conv=>whnf
 refine ⟨⟨hw4.1,hw4.2,hD.l2'.1,hD.l2'.2⟩,?_⟩
 intro hi lo e0 a1 a2 a3 a4 a5
 conv=>whnf
 refine ⟨⟨a3,hr2.1,Int.le_refl _,Int.zero_le_ofNat 1⟩,?_⟩
 intro x k e1 a6 a7 a8
 conv=>whnf
 rw [c1]
 rw [← hq1]
 refine ⟨⟨a6,f1.1,Int.le_refl _,Int.zero_le_ofNat 1⟩,?_⟩
 intro y2 l e2 g20 g21 a9
 obtain ⟨c2,d2,f2⟩:=mac e0 a1 a3 a4 a5 hr2 f1 e1 a6 a7 a8 e2 g20 g21 a9
 obtain ⟨q2,hq2⟩:∃ q,q=hi+k+l:=⟨_,rfl⟩
 rw [← hq2] at d2 f2
 clear e0 a1 a2 a3 a4 a5 e1 a6 a7 a8 e2 a9
 conv=>whnf
 have hL:=mul_L D w4
 have hS:=hp_succ D w4 w5 w6 w7
 obtain ⟨T,hT⟩:∃ T,T=val w0 w1 w2 w3+hp w4 w5 w6 w7 1*D.L:=⟨_,rfl⟩
 have hTb:=hp_bound hD ⟨hw0,hw1,hw2,hw3,hw4,hw5,hw6,hw7⟩ (by decide) hT
 have hE:val8 y0 y1 y2 r3 r4 r5 r6 r7+q64 3*q2=T:=by
  rw [hT,hS.2.1,hL]
  clear hT hTb hL hS c2 hq0 hq1 hq2
  generalize w4*D.l0=Q0 at *
  generalize w4*D.l1=Q1 at *
  generalize w4*D.l2=Q2 at *
  generalize hp w4 w5 w6 w7 0*D.L=G at *
  unfold val8 val at *
  simp only [q64]
  omega
 have hcw:wr .u64 ((_:Int)%18446744073709551616+_)=u q2:=congrArg (Sc.int .u64) (c2.trans hq2.symm)
 have hI:In8 y0 y1 y2 r3 r4 r5 r6 r7:=⟨⟨g00,g01⟩,⟨g10,g11⟩,⟨g20,g21⟩,hr3,hr4,hr5,hr6,hr7⟩
 clear hL hS d0 d1 d2 c0 c1 hq0 hq1 hE0 g00 g01 g10 g11 g20 g21 f0 f1
 refine .inr (loop_inv (gOk W0) (CarI D w0 w1 w2 w3 w4 w5 w6 w7 T 0) ?_ ?_)
 ·intro k e' m' hC
  clear hE hI hcw c2 hq2
  obtain ⟨j,c,s0,s1,s2,s3,s4,s5,s6,s7,t0,t1,t2,t3,hj3,hj8,rfl,hs,hc,hv,rfl,rfl⟩:=hC
  obtain rfl | rfl | rfl | rfl | rfl | rfl:j=3∨j=4∨j=5∨j=6∨j=7∨j=8:=by omega
  ·conv=>whnf
   split
   ·rename_i h
    have h:=of_decide_eq_true h
    conv=>whnf
    obtain ⟨hs0,hs1,hs2,hs3,hs4,hs5,hs6,hs7⟩:=hs
    refine ⟨⟨hs3.1,hc.1,Int.le_refl _,Int.zero_le_ofNat 1⟩,?_⟩
    intro s t e1 a1 a2 a3
    conv=>whnf
    refine ⟨4,_,_,by decide,wk_of (by (repeat' apply And.intro)<;>first | trivial | rfl) (by (repeat' apply And.intro)<;>first | trivial | rfl) (Nat.le_refl _) (Nat.le_refl _),⟨4,t,s0,s1,s2,s,s4,s5,s6,s7,t0,t1,t2,t3,by decide,by decide,rfl,⟨hs0,hs1,hs2,⟨a1,a2⟩,hs4,hs5,hs6,hs7⟩,⟨by omega,by omega⟩,?_,rfl,rfl⟩⟩
    simp only [q64] at hv ⊢
    unfold val8 val at *
    omega
   ·rename_i h
    have h:=of_decide_eq_false h
    conv=>whnf
    obtain rfl:c=0:=by omega
    refine ⟨3,_,_,by decide,wk_of (by (repeat' apply And.intro)<;>first | trivial | rfl) (by (repeat' apply And.intro)<;>first | trivial | rfl) (Nat.le_refl _) (Nat.le_refl _),⟨1,_,_,_,_,_,_,_,_,t0,t1,t2,t3,by decide,rfl,hs,by rw [← hT,← hv,Int.mul_zero,Int.add_zero],rfl,rfl⟩⟩
  ·conv=>whnf
   split
   ·rename_i h
    have h:=of_decide_eq_true h
    conv=>whnf
    obtain ⟨hs0,hs1,hs2,hs3,hs4,hs5,hs6,hs7⟩:=hs
    refine ⟨⟨hs4.1,hc.1,Int.le_refl _,Int.zero_le_ofNat 1⟩,?_⟩
    intro s t e1 a1 a2 a3
    conv=>whnf
    refine ⟨3,_,_,by decide,wk_of (by (repeat' apply And.intro)<;>first | trivial | rfl) (by (repeat' apply And.intro)<;>first | trivial | rfl) (Nat.le_refl _) (Nat.le_refl _),⟨5,t,s0,s1,s2,s3,s,s5,s6,s7,t0,t1,t2,t3,by decide,by decide,rfl,⟨hs0,hs1,hs2,hs3,⟨a1,a2⟩,hs5,hs6,hs7⟩,⟨by omega,by omega⟩,?_,rfl,rfl⟩⟩
    simp only [q64] at hv ⊢
    unfold val8 val at *
    omega
   ·rename_i h
    have h:=of_decide_eq_false h
    conv=>whnf
    obtain rfl:c=0:=by omega
    refine ⟨3,_,_,by decide,wk_of (by (repeat' apply And.intro)<;>first | trivial | rfl) (by (repeat' apply And.intro)<;>first | trivial | rfl) (Nat.le_refl _) (Nat.le_refl _),⟨1,_,_,_,_,_,_,_,_,t0,t1,t2,t3,by decide,rfl,hs,by rw [← hT,← hv,Int.mul_zero,Int.add_zero],rfl,rfl⟩⟩
  ·conv=>whnf
   split
   ·rename_i h
    have h:=of_decide_eq_true h
    conv=>whnf
    obtain ⟨hs0,hs1,hs2,hs3,hs4,hs5,hs6,hs7⟩:=hs
    refine ⟨⟨hs5.1,hc.1,Int.le_refl _,Int.zero_le_ofNat 1⟩,?_⟩
    intro s t e1 a1 a2 a3
    conv=>whnf
    refine ⟨2,_,_,by decide,wk_of (by (repeat' apply And.intro)<;>first | trivial | rfl) (by (repeat' apply And.intro)<;>first | trivial | rfl) (Nat.le_refl _) (Nat.le_refl _),⟨6,t,s0,s1,s2,s3,s4,s,s6,s7,t0,t1,t2,t3,by decide,by decide,rfl,⟨hs0,hs1,hs2,hs3,hs4,⟨a1,a2⟩,hs6,hs7⟩,⟨by omega,by omega⟩,?_,rfl,rfl⟩⟩
    simp only [q64] at hv ⊢
    unfold val8 val at *
    omega
   ·rename_i h
    have h:=of_decide_eq_false h
    conv=>whnf
    obtain rfl:c=0:=by omega
    refine ⟨3,_,_,by decide,wk_of (by (repeat' apply And.intro)<;>first | trivial | rfl) (by (repeat' apply And.intro)<;>first | trivial | rfl) (Nat.le_refl _) (Nat.le_refl _),⟨1,_,_,_,_,_,_,_,_,t0,t1,t2,t3,by decide,rfl,hs,by rw [← hT,← hv,Int.mul_zero,Int.add_zero],rfl,rfl⟩⟩
  ·conv=>whnf
   split
   ·rename_i h
    have h:=of_decide_eq_true h
    conv=>whnf
    obtain ⟨hs0,hs1,hs2,hs3,hs4,hs5,hs6,hs7⟩:=hs
    refine ⟨⟨hs6.1,hc.1,Int.le_refl _,Int.zero_le_ofNat 1⟩,?_⟩
    intro s t e1 a1 a2 a3
    conv=>whnf
    refine ⟨1,_,_,by decide,wk_of (by (repeat' apply And.intro)<;>first | trivial | rfl) (by (repeat' apply And.intro)<;>first | trivial | rfl) (Nat.le_refl _) (Nat.le_refl _),⟨7,t,s0,s1,s2,s3,s4,s5,s,s7,t0,t1,t2,t3,by decide,by decide,rfl,⟨hs0,hs1,hs2,hs3,hs4,hs5,⟨a1,a2⟩,hs7⟩,⟨by omega,by omega⟩,?_,rfl,rfl⟩⟩
    simp only [q64] at hv ⊢
    unfold val8 val at *
    omega
   ·rename_i h
    have h:=of_decide_eq_false h
    conv=>whnf
    obtain rfl:c=0:=by omega
    refine ⟨3,_,_,by decide,wk_of (by (repeat' apply And.intro)<;>first | trivial | rfl) (by (repeat' apply And.intro)<;>first | trivial | rfl) (Nat.le_refl _) (Nat.le_refl _),⟨1,_,_,_,_,_,_,_,_,t0,t1,t2,t3,by decide,rfl,hs,by rw [← hT,← hv,Int.mul_zero,Int.add_zero],rfl,rfl⟩⟩
  ·conv=>whnf
   split
   ·rename_i h
    have h:=of_decide_eq_true h
    conv=>whnf
    obtain ⟨hs0,hs1,hs2,hs3,hs4,hs5,hs6,hs7⟩:=hs
    refine ⟨⟨hs7.1,hc.1,Int.le_refl _,Int.zero_le_ofNat 1⟩,?_⟩
    intro s t e1 a1 a2 a3
    conv=>whnf
    refine ⟨0,_,_,by decide,wk_of (by (repeat' apply And.intro)<;>first | trivial | rfl) (by (repeat' apply And.intro)<;>first | trivial | rfl) (Nat.le_refl _) (Nat.le_refl _),⟨8,t,s0,s1,s2,s3,s4,s5,s6,s,t0,t1,t2,t3,by decide,by decide,rfl,⟨hs0,hs1,hs2,hs3,hs4,hs5,hs6,⟨a1,a2⟩⟩,⟨by omega,by omega⟩,?_,rfl,rfl⟩⟩
    simp only [q64] at hv ⊢
    unfold val8 val at *
    omega
   ·rename_i h
    have h:=of_decide_eq_false h
    conv=>whnf
    obtain rfl:c=0:=by omega
    refine ⟨3,_,_,by decide,wk_of (by (repeat' apply And.intro)<;>first | trivial | rfl) (by (repeat' apply And.intro)<;>first | trivial | rfl) (Nat.le_refl _) (Nat.le_refl _),⟨1,_,_,_,_,_,_,_,_,t0,t1,t2,t3,by decide,rfl,hs,by rw [← hT,← hv,Int.mul_zero,Int.add_zero],rfl,rfl⟩⟩
  ·conv=>whnf
   obtain rfl:c=0:=by
    obtain ⟨hs0,hs1,hs2,hs3,hs4,hs5,hs6,hs7⟩:=hs
    simp only [q64] at hv
    unfold val8 val at hv
    omega
   refine ⟨3,_,_,by decide,wk_of (by (repeat' apply And.intro)<;>first | trivial | rfl) (by (repeat' apply And.intro)<;>first | trivial | rfl) (Nat.le_refl _) (Nat.le_refl _),⟨1,_,_,_,_,_,_,_,_,t0,t1,t2,t3,by decide,rfl,hs,by rw [← hT,← hv,Int.mul_zero,Int.add_zero],rfl,rfl⟩⟩
 ·refine ⟨5,_,_,wk_of (by (repeat' apply And.intro)<;>first | trivial | rfl | exact congrArg (fun x=>some (TV.one x)) (congrArg (Sc.int .u64) (c2.trans hq2.symm))) (by (repeat' apply And.intro)<;>first | trivial | rfl) (Nat.le_refl _) (Nat.le_refl _),⟨3,q2,y0,y1,y2,r3,r4,r5,r6,r7,t0,t1,t2,t3,by decide,by decide,rfl,hI,f2,hE,rfl,rfl⟩⟩

set_option maxHeartbeats 4000000 in
theorem mid1 {D:MD} (hD:D.Ok) {w0 w1 w2 w3 w4 w5 w6 w7 r0 r1 r2 r3 r4 r5 r6 r7:Int} {t0 t1 t2 t3:Nat} (hw:In8 w0 w1 w2 w3 w4 w5 w6 w7) (hr:In8 r0 r1 r2 r3 r4 r5 r6 r7) (hE0:val8 r0 r1 r2 r3 r4 r5 r6 r7=val w0 w1 w2 w3+hp w4 w5 w6 w7 1*D.L) (W0:World) (Q:Exit→Env→Mem→Prop) :
  swp (GG W0) (lp F_ref03_fold 2) (fun x e1 m1=>match x with
   | .normal=>∃ j e2 m2,j<4-1∧Wk (mem3 D w0 w1 w2 w3 w4 w5 w6 w7 t0 t1 t2 [some ⟨[u r0,u r1,u r2,u r3,u r4,u r5,u r6,u r7],t3,0,false⟩]).length e1 m1 e2 m2∧MidI D w0 w1 w2 w3 w4 w5 w6 w7 j e2 m2
   | x=>Q x e1 m1) ((7,.one (.int .i64 (1:Nat)))::(5,.one (.ptr (some (.loc 3 0))))::env3) (mem3 D w0 w1 w2 w3 w4 w5 w6 w7 t0 t1 t2 [some ⟨[u r0,u r1,u r2,u r3,u r4,u r5,u r6,u r7],t3,0,false⟩]):=by
 obtain ⟨hw0,hw1,hw2,hw3,hw4,hw5,hw6,hw7⟩:=hw
 obtain ⟨hr0,hr1,hr2,hr3,hr4,hr5,hr6,hr7⟩:=hr
 have z0:InU 0:=⟨by omega,by omega⟩
 conv=>whnf
 refine .inl ⟨4,?_⟩
 conv=>whnf
 refine ⟨⟨hw5.1,hw5.2,hD.l0.1,hD.l0.2⟩,?_⟩
 intro hi lo e0 a1 a2 a3 a4 a5
 conv=>whnf
 refine ⟨⟨a3,hr1.1,Int.le_refl _,Int.zero_le_ofNat 1⟩,?_⟩
 intro x k e1 a6 a7 a8
 conv=>whnf
 refine ⟨⟨a6,Int.le_refl _,Int.le_refl _,Int.zero_le_ofNat 1⟩,?_⟩
 intro y0 l e2 g00 g01 a9
 obtain ⟨c0,d0,f0⟩:=mac e0 a1 a3 a4 a5 hr1 z0 e1 a6 a7 a8 e2 g00 g01 a9
 obtain ⟨q0,hq0⟩:∃ q,q=hi+k+l:=⟨_,rfl⟩
 rw [← hq0] at d0 f0
 clear e0 a1 a2 a3 a4 a5 e1 a6 a7 a8 e2 a9
 conv=>whnf
 refine ⟨⟨hw5.1,hw5.2,hD.l1.1,hD.l1.2⟩,?_⟩
 intro hi lo e0 a1 a2 a3 a4 a5
 conv=>whnf
 refine ⟨⟨a3,hr2.1,Int.le_refl _,Int.zero_le_ofNat 1⟩,?_⟩
 intro x k e1 a6 a7 a8
 conv=>whnf
 rw [c0]
 rw [← hq0]
 refine ⟨⟨a6,f0.1,Int.le_refl _,Int.zero_le_ofNat 1⟩,?_⟩
 intro y1 l e2 g10 g11 a9
 obtain ⟨c1,d1,f1⟩:=mac e0 a1 a3 a4 a5 hr2 f0 e1 a6 a7 a8 e2 g10 g11 a9
 obtain ⟨q1,hq1⟩:∃ q,q=hi+k+l:=⟨_,rfl⟩
 rw [← hq1] at d1 f1
 clear e0 a1 a2 a3 a4 a5 e1 a6 a7 a8 e2 a9
 conv=>whnf
 refine ⟨⟨hw5.1,hw5.2,hD.l2'.1,hD.l2'.2⟩,?_⟩
 intro hi lo e0 a1 a2 a3 a4 a5
 conv=>whnf
 refine ⟨⟨a3,hr3.1,Int.le_refl _,Int.zero_le_ofNat 1⟩,?_⟩
 intro x k e1 a6 a7 a8
 conv=>whnf
 rw [c1]
 rw [← hq1]
 refine ⟨⟨a6,f1.1,Int.le_refl _,Int.zero_le_ofNat 1⟩,?_⟩
 intro y2 l e2 g20 g21 a9
 obtain ⟨c2,d2,f2⟩:=mac e0 a1 a3 a4 a5 hr3 f1 e1 a6 a7 a8 e2 g20 g21 a9
 obtain ⟨q2,hq2⟩:∃ q,q=hi+k+l:=⟨_,rfl⟩
 rw [← hq2] at d2 f2
 clear e0 a1 a2 a3 a4 a5 e1 a6 a7 a8 e2 a9
 conv=>whnf
 have hL:=mul_L D w5
 have hS:=hp_succ D w4 w5 w6 w7
 obtain ⟨T,hT⟩:∃ T,T=val w0 w1 w2 w3+hp w4 w5 w6 w7 2*D.L:=⟨_,rfl⟩
 have hTb:=hp_bound hD ⟨hw0,hw1,hw2,hw3,hw4,hw5,hw6,hw7⟩ (by decide) hT
 have hE:val8 r0 y0 y1 y2 r4 r5 r6 r7+q64 4*q2=T:=by
  rw [hT,hS.2.2.1,hL]
  clear hT hTb hL hS c2 hq0 hq1 hq2
  generalize w5*D.l0=Q0 at *
  generalize w5*D.l1=Q1 at *
  generalize w5*D.l2=Q2 at *
  generalize hp w4 w5 w6 w7 1*D.L=G at *
  unfold val8 val at *
  simp only [q64]
  omega
 have hcw:wr .u64 ((_:Int)%18446744073709551616+_)=u q2:=congrArg (Sc.int .u64) (c2.trans hq2.symm)
 have hI:In8 r0 y0 y1 y2 r4 r5 r6 r7:=⟨hr0,⟨g00,g01⟩,⟨g10,g11⟩,⟨g20,g21⟩,hr4,hr5,hr6,hr7⟩
 clear hL hS d0 d1 d2 c0 c1 hq0 hq1 hE0 g00 g01 g10 g11 g20 g21 f0 f1
 refine .inr (loop_inv (gOk W0) (CarI D w0 w1 w2 w3 w4 w5 w6 w7 T 1) ?_ ?_)
 ·intro k e' m' hC
  clear hE hI hcw c2 hq2
  obtain ⟨j,c,s0,s1,s2,s3,s4,s5,s6,s7,t0,t1,t2,t3,hj3,hj8,rfl,hs,hc,hv,rfl,rfl⟩:=hC
  obtain rfl | rfl | rfl | rfl | rfl | rfl:j=3∨j=4∨j=5∨j=6∨j=7∨j=8:=by omega
  ·conv=>whnf
   split
   ·rename_i h
    have h:=of_decide_eq_true h
    conv=>whnf
    obtain ⟨hs0,hs1,hs2,hs3,hs4,hs5,hs6,hs7⟩:=hs
    refine ⟨⟨hs3.1,hc.1,Int.le_refl _,Int.zero_le_ofNat 1⟩,?_⟩
    intro s t e1 a1 a2 a3
    conv=>whnf
    refine ⟨4,_,_,by decide,wk_of (by (repeat' apply And.intro)<;>first | trivial | rfl) (by (repeat' apply And.intro)<;>first | trivial | rfl) (Nat.le_refl _) (Nat.le_refl _),⟨4,t,s0,s1,s2,s,s4,s5,s6,s7,t0,t1,t2,t3,by decide,by decide,rfl,⟨hs0,hs1,hs2,⟨a1,a2⟩,hs4,hs5,hs6,hs7⟩,⟨by omega,by omega⟩,?_,rfl,rfl⟩⟩
    simp only [q64] at hv ⊢
    unfold val8 val at *
    omega
   ·rename_i h
    have h:=of_decide_eq_false h
    conv=>whnf
    obtain rfl:c=0:=by omega
    refine ⟨2,_,_,by decide,wk_of (by (repeat' apply And.intro)<;>first | trivial | rfl) (by (repeat' apply And.intro)<;>first | trivial | rfl) (Nat.le_refl _) (Nat.le_refl _),⟨2,_,_,_,_,_,_,_,_,t0,t1,t2,t3,by decide,rfl,hs,by rw [← hT,← hv,Int.mul_zero,Int.add_zero],rfl,rfl⟩⟩
  ·conv=>whnf
   split
   ·rename_i h
    have h:=of_decide_eq_true h
    conv=>whnf
    obtain ⟨hs0,hs1,hs2,hs3,hs4,hs5,hs6,hs7⟩:=hs
    refine ⟨⟨hs4.1,hc.1,Int.le_refl _,Int.zero_le_ofNat 1⟩,?_⟩
    intro s t e1 a1 a2 a3
    conv=>whnf
    refine ⟨3,_,_,by decide,wk_of (by (repeat' apply And.intro)<;>first | trivial | rfl) (by (repeat' apply And.intro)<;>first | trivial | rfl) (Nat.le_refl _) (Nat.le_refl _),⟨5,t,s0,s1,s2,s3,s,s5,s6,s7,t0,t1,t2,t3,by decide,by decide,rfl,⟨hs0,hs1,hs2,hs3,⟨a1,a2⟩,hs5,hs6,hs7⟩,⟨by omega,by omega⟩,?_,rfl,rfl⟩⟩
    simp only [q64] at hv ⊢
    unfold val8 val at *
    omega
   ·rename_i h
    have h:=of_decide_eq_false h
    conv=>whnf
    obtain rfl:c=0:=by omega
    refine ⟨2,_,_,by decide,wk_of (by (repeat' apply And.intro)<;>first | trivial | rfl) (by (repeat' apply And.intro)<;>first | trivial | rfl) (Nat.le_refl _) (Nat.le_refl _),⟨2,_,_,_,_,_,_,_,_,t0,t1,t2,t3,by decide,rfl,hs,by rw [← hT,← hv,Int.mul_zero,Int.add_zero],rfl,rfl⟩⟩
  ·conv=>whnf
   split
   ·rename_i h
    have h:=of_decide_eq_true h
    conv=>whnf
    obtain ⟨hs0,hs1,hs2,hs3,hs4,hs5,hs6,hs7⟩:=hs
    refine ⟨⟨hs5.1,hc.1,Int.le_refl _,Int.zero_le_ofNat 1⟩,?_⟩
    intro s t e1 a1 a2 a3
    conv=>whnf
    refine ⟨2,_,_,by decide,wk_of (by (repeat' apply And.intro)<;>first | trivial | rfl) (by (repeat' apply And.intro)<;>first | trivial | rfl) (Nat.le_refl _) (Nat.le_refl _),⟨6,t,s0,s1,s2,s3,s4,s,s6,s7,t0,t1,t2,t3,by decide,by decide,rfl,⟨hs0,hs1,hs2,hs3,hs4,⟨a1,a2⟩,hs6,hs7⟩,⟨by omega,by omega⟩,?_,rfl,rfl⟩⟩
    simp only [q64] at hv ⊢
    unfold val8 val at *
    omega
   ·rename_i h
    have h:=of_decide_eq_false h
    conv=>whnf
    obtain rfl:c=0:=by omega
    refine ⟨2,_,_,by decide,wk_of (by (repeat' apply And.intro)<;>first | trivial | rfl) (by (repeat' apply And.intro)<;>first | trivial | rfl) (Nat.le_refl _) (Nat.le_refl _),⟨2,_,_,_,_,_,_,_,_,t0,t1,t2,t3,by decide,rfl,hs,by rw [← hT,← hv,Int.mul_zero,Int.add_zero],rfl,rfl⟩⟩
  ·conv=>whnf
   split
   ·rename_i h
    have h:=of_decide_eq_true h
    conv=>whnf
    obtain ⟨hs0,hs1,hs2,hs3,hs4,hs5,hs6,hs7⟩:=hs
    refine ⟨⟨hs6.1,hc.1,Int.le_refl _,Int.zero_le_ofNat 1⟩,?_⟩
    intro s t e1 a1 a2 a3
    conv=>whnf
    refine ⟨1,_,_,by decide,wk_of (by (repeat' apply And.intro)<;>first | trivial | rfl) (by (repeat' apply And.intro)<;>first | trivial | rfl) (Nat.le_refl _) (Nat.le_refl _),⟨7,t,s0,s1,s2,s3,s4,s5,s,s7,t0,t1,t2,t3,by decide,by decide,rfl,⟨hs0,hs1,hs2,hs3,hs4,hs5,⟨a1,a2⟩,hs7⟩,⟨by omega,by omega⟩,?_,rfl,rfl⟩⟩
    simp only [q64] at hv ⊢
    unfold val8 val at *
    omega
   ·rename_i h
    have h:=of_decide_eq_false h
    conv=>whnf
    obtain rfl:c=0:=by omega
    refine ⟨2,_,_,by decide,wk_of (by (repeat' apply And.intro)<;>first | trivial | rfl) (by (repeat' apply And.intro)<;>first | trivial | rfl) (Nat.le_refl _) (Nat.le_refl _),⟨2,_,_,_,_,_,_,_,_,t0,t1,t2,t3,by decide,rfl,hs,by rw [← hT,← hv,Int.mul_zero,Int.add_zero],rfl,rfl⟩⟩
  ·conv=>whnf
   split
   ·rename_i h
    have h:=of_decide_eq_true h
    conv=>whnf
    obtain ⟨hs0,hs1,hs2,hs3,hs4,hs5,hs6,hs7⟩:=hs
    refine ⟨⟨hs7.1,hc.1,Int.le_refl _,Int.zero_le_ofNat 1⟩,?_⟩
    intro s t e1 a1 a2 a3
    conv=>whnf
    refine ⟨0,_,_,by decide,wk_of (by (repeat' apply And.intro)<;>first | trivial | rfl) (by (repeat' apply And.intro)<;>first | trivial | rfl) (Nat.le_refl _) (Nat.le_refl _),⟨8,t,s0,s1,s2,s3,s4,s5,s6,s,t0,t1,t2,t3,by decide,by decide,rfl,⟨hs0,hs1,hs2,hs3,hs4,hs5,hs6,⟨a1,a2⟩⟩,⟨by omega,by omega⟩,?_,rfl,rfl⟩⟩
    simp only [q64] at hv ⊢
    unfold val8 val at *
    omega
   ·rename_i h
    have h:=of_decide_eq_false h
    conv=>whnf
    obtain rfl:c=0:=by omega
    refine ⟨2,_,_,by decide,wk_of (by (repeat' apply And.intro)<;>first | trivial | rfl) (by (repeat' apply And.intro)<;>first | trivial | rfl) (Nat.le_refl _) (Nat.le_refl _),⟨2,_,_,_,_,_,_,_,_,t0,t1,t2,t3,by decide,rfl,hs,by rw [← hT,← hv,Int.mul_zero,Int.add_zero],rfl,rfl⟩⟩
  ·conv=>whnf
   obtain rfl:c=0:=by
    obtain ⟨hs0,hs1,hs2,hs3,hs4,hs5,hs6,hs7⟩:=hs
    simp only [q64] at hv
    unfold val8 val at hv
    omega
   refine ⟨2,_,_,by decide,wk_of (by (repeat' apply And.intro)<;>first | trivial | rfl) (by (repeat' apply And.intro)<;>first | trivial | rfl) (Nat.le_refl _) (Nat.le_refl _),⟨2,_,_,_,_,_,_,_,_,t0,t1,t2,t3,by decide,rfl,hs,by rw [← hT,← hv,Int.mul_zero,Int.add_zero],rfl,rfl⟩⟩
 ·refine ⟨4,_,_,wk_of (by (repeat' apply And.intro)<;>first | trivial | rfl | exact congrArg (fun x=>some (TV.one x)) (congrArg (Sc.int .u64) (c2.trans hq2.symm))) (by (repeat' apply And.intro)<;>first | trivial | rfl) (Nat.le_refl _) (Nat.le_refl _),⟨4,q2,r0,y0,y1,y2,r4,r5,r6,r7,t0,t1,t2,t3,by decide,by decide,rfl,hI,f2,hE,rfl,rfl⟩⟩

set_option maxHeartbeats 4000000 in
theorem mid2 {D:MD} (hD:D.Ok) {w0 w1 w2 w3 w4 w5 w6 w7 r0 r1 r2 r3 r4 r5 r6 r7:Int} {t0 t1 t2 t3:Nat} (hw:In8 w0 w1 w2 w3 w4 w5 w6 w7) (hr:In8 r0 r1 r2 r3 r4 r5 r6 r7) (hE0:val8 r0 r1 r2 r3 r4 r5 r6 r7=val w0 w1 w2 w3+hp w4 w5 w6 w7 2*D.L) (W0:World) (Q:Exit→Env→Mem→Prop) :
  swp (GG W0) (lp F_ref03_fold 2) (fun x e1 m1=>match x with
   | .normal=>∃ j e2 m2,j<4-2∧Wk (mem3 D w0 w1 w2 w3 w4 w5 w6 w7 t0 t1 t2 [some ⟨[u r0,u r1,u r2,u r3,u r4,u r5,u r6,u r7],t3,0,false⟩]).length e1 m1 e2 m2∧MidI D w0 w1 w2 w3 w4 w5 w6 w7 j e2 m2
   | x=>Q x e1 m1) ((7,.one (.int .i64 (2:Nat)))::(5,.one (.ptr (some (.loc 3 0))))::env3) (mem3 D w0 w1 w2 w3 w4 w5 w6 w7 t0 t1 t2 [some ⟨[u r0,u r1,u r2,u r3,u r4,u r5,u r6,u r7],t3,0,false⟩]):=by
 obtain ⟨hw0,hw1,hw2,hw3,hw4,hw5,hw6,hw7⟩:=hw
 obtain ⟨hr0,hr1,hr2,hr3,hr4,hr5,hr6,hr7⟩:=hr
 have z0:InU 0:=⟨by omega,by omega⟩
 conv=>whnf
 refine .inl ⟨4,?_⟩
 conv=>whnf
 refine ⟨⟨hw6.1,hw6.2,hD.l0.1,hD.l0.2⟩,?_⟩
 intro hi lo e0 a1 a2 a3 a4 a5
 conv=>whnf
 refine ⟨⟨a3,hr2.1,Int.le_refl _,Int.zero_le_ofNat 1⟩,?_⟩
 intro x k e1 a6 a7 a8
 conv=>whnf
 refine ⟨⟨a6,Int.le_refl _,Int.le_refl _,Int.zero_le_ofNat 1⟩,?_⟩
 intro y0 l e2 g00 g01 a9
 obtain ⟨c0,d0,f0⟩:=mac e0 a1 a3 a4 a5 hr2 z0 e1 a6 a7 a8 e2 g00 g01 a9
 obtain ⟨q0,hq0⟩:∃ q,q=hi+k+l:=⟨_,rfl⟩
 rw [← hq0] at d0 f0
 clear e0 a1 a2 a3 a4 a5 e1 a6 a7 a8 e2 a9
 conv=>whnf
 refine ⟨⟨hw6.1,hw6.2,hD.l1.1,hD.l1.2⟩,?_⟩
 intro hi lo e0 a1 a2 a3 a4 a5
 conv=>whnf
 refine ⟨⟨a3,hr3.1,Int.le_refl _,Int.zero_le_ofNat 1⟩,?_⟩
 intro x k e1 a6 a7 a8
 conv=>whnf
 rw [c0]
 rw [← hq0]
 refine ⟨⟨a6,f0.1,Int.le_refl _,Int.zero_le_ofNat 1⟩,?_⟩
 intro y1 l e2 g10 g11 a9
 obtain ⟨c1,d1,f1⟩:=mac e0 a1 a3 a4 a5 hr3 f0 e1 a6 a7 a8 e2 g10 g11 a9
 obtain ⟨q1,hq1⟩:∃ q,q=hi+k+l:=⟨_,rfl⟩
 rw [← hq1] at d1 f1
 clear e0 a1 a2 a3 a4 a5 e1 a6 a7 a8 e2 a9
 conv=>whnf
 refine ⟨⟨hw6.1,hw6.2,hD.l2'.1,hD.l2'.2⟩,?_⟩
 intro hi lo e0 a1 a2 a3 a4 a5
 conv=>whnf
 refine ⟨⟨a3,hr4.1,Int.le_refl _,Int.zero_le_ofNat 1⟩,?_⟩
 intro x k e1 a6 a7 a8
 conv=>whnf
 rw [c1]
 rw [← hq1]
 refine ⟨⟨a6,f1.1,Int.le_refl _,Int.zero_le_ofNat 1⟩,?_⟩
 intro y2 l e2 g20 g21 a9
 obtain ⟨c2,d2,f2⟩:=mac e0 a1 a3 a4 a5 hr4 f1 e1 a6 a7 a8 e2 g20 g21 a9
 obtain ⟨q2,hq2⟩:∃ q,q=hi+k+l:=⟨_,rfl⟩
 rw [← hq2] at d2 f2
 clear e0 a1 a2 a3 a4 a5 e1 a6 a7 a8 e2 a9
 conv=>whnf
 have hL:=mul_L D w6
 have hS:=hp_succ D w4 w5 w6 w7
 obtain ⟨T,hT⟩:∃ T,T=val w0 w1 w2 w3+hp w4 w5 w6 w7 3*D.L:=⟨_,rfl⟩
 have hTb:=hp_bound hD ⟨hw0,hw1,hw2,hw3,hw4,hw5,hw6,hw7⟩ (by decide) hT
 have hE:val8 r0 r1 y0 y1 y2 r5 r6 r7+q64 5*q2=T:=by
  rw [hT,hS.2.2.2.1,hL]
  clear hT hTb hL hS c2 hq0 hq1 hq2
  generalize w6*D.l0=Q0 at *
  generalize w6*D.l1=Q1 at *
  generalize w6*D.l2=Q2 at *
  generalize hp w4 w5 w6 w7 2*D.L=G at *
  unfold val8 val at *
  simp only [q64]
  omega
 have hcw:wr .u64 ((_:Int)%18446744073709551616+_)=u q2:=congrArg (Sc.int .u64) (c2.trans hq2.symm)
 have hI:In8 r0 r1 y0 y1 y2 r5 r6 r7:=⟨hr0,hr1,⟨g00,g01⟩,⟨g10,g11⟩,⟨g20,g21⟩,hr5,hr6,hr7⟩
 clear hL hS d0 d1 d2 c0 c1 hq0 hq1 hE0 g00 g01 g10 g11 g20 g21 f0 f1
 refine .inr (loop_inv (gOk W0) (CarI D w0 w1 w2 w3 w4 w5 w6 w7 T 2) ?_ ?_)
 ·intro k e' m' hC
  clear hE hI hcw c2 hq2
  obtain ⟨j,c,s0,s1,s2,s3,s4,s5,s6,s7,t0,t1,t2,t3,hj3,hj8,rfl,hs,hc,hv,rfl,rfl⟩:=hC
  obtain rfl | rfl | rfl | rfl | rfl | rfl:j=3∨j=4∨j=5∨j=6∨j=7∨j=8:=by omega
  ·conv=>whnf
   split
   ·rename_i h
    have h:=of_decide_eq_true h
    conv=>whnf
    obtain ⟨hs0,hs1,hs2,hs3,hs4,hs5,hs6,hs7⟩:=hs
    refine ⟨⟨hs3.1,hc.1,Int.le_refl _,Int.zero_le_ofNat 1⟩,?_⟩
    intro s t e1 a1 a2 a3
    conv=>whnf
    refine ⟨4,_,_,by decide,wk_of (by (repeat' apply And.intro)<;>first | trivial | rfl) (by (repeat' apply And.intro)<;>first | trivial | rfl) (Nat.le_refl _) (Nat.le_refl _),⟨4,t,s0,s1,s2,s,s4,s5,s6,s7,t0,t1,t2,t3,by decide,by decide,rfl,⟨hs0,hs1,hs2,⟨a1,a2⟩,hs4,hs5,hs6,hs7⟩,⟨by omega,by omega⟩,?_,rfl,rfl⟩⟩
    simp only [q64] at hv ⊢
    unfold val8 val at *
    omega
   ·rename_i h
    have h:=of_decide_eq_false h
    conv=>whnf
    obtain rfl:c=0:=by omega
    refine ⟨1,_,_,by decide,wk_of (by (repeat' apply And.intro)<;>first | trivial | rfl) (by (repeat' apply And.intro)<;>first | trivial | rfl) (Nat.le_refl _) (Nat.le_refl _),⟨3,_,_,_,_,_,_,_,_,t0,t1,t2,t3,by decide,rfl,hs,by rw [← hT,← hv,Int.mul_zero,Int.add_zero],rfl,rfl⟩⟩
  ·conv=>whnf
   split
   ·rename_i h
    have h:=of_decide_eq_true h
    conv=>whnf
    obtain ⟨hs0,hs1,hs2,hs3,hs4,hs5,hs6,hs7⟩:=hs
    refine ⟨⟨hs4.1,hc.1,Int.le_refl _,Int.zero_le_ofNat 1⟩,?_⟩
    intro s t e1 a1 a2 a3
    conv=>whnf
    refine ⟨3,_,_,by decide,wk_of (by (repeat' apply And.intro)<;>first | trivial | rfl) (by (repeat' apply And.intro)<;>first | trivial | rfl) (Nat.le_refl _) (Nat.le_refl _),⟨5,t,s0,s1,s2,s3,s,s5,s6,s7,t0,t1,t2,t3,by decide,by decide,rfl,⟨hs0,hs1,hs2,hs3,⟨a1,a2⟩,hs5,hs6,hs7⟩,⟨by omega,by omega⟩,?_,rfl,rfl⟩⟩
    simp only [q64] at hv ⊢
    unfold val8 val at *
    omega
   ·rename_i h
    have h:=of_decide_eq_false h
    conv=>whnf
    obtain rfl:c=0:=by omega
    refine ⟨1,_,_,by decide,wk_of (by (repeat' apply And.intro)<;>first | trivial | rfl) (by (repeat' apply And.intro)<;>first | trivial | rfl) (Nat.le_refl _) (Nat.le_refl _),⟨3,_,_,_,_,_,_,_,_,t0,t1,t2,t3,by decide,rfl,hs,by rw [← hT,← hv,Int.mul_zero,Int.add_zero],rfl,rfl⟩⟩
  ·conv=>whnf
   split
   ·rename_i h
    have h:=of_decide_eq_true h
    conv=>whnf
    obtain ⟨hs0,hs1,hs2,hs3,hs4,hs5,hs6,hs7⟩:=hs
    refine ⟨⟨hs5.1,hc.1,Int.le_refl _,Int.zero_le_ofNat 1⟩,?_⟩
    intro s t e1 a1 a2 a3
    conv=>whnf
    refine ⟨2,_,_,by decide,wk_of (by (repeat' apply And.intro)<;>first | trivial | rfl) (by (repeat' apply And.intro)<;>first | trivial | rfl) (Nat.le_refl _) (Nat.le_refl _),⟨6,t,s0,s1,s2,s3,s4,s,s6,s7,t0,t1,t2,t3,by decide,by decide,rfl,⟨hs0,hs1,hs2,hs3,hs4,⟨a1,a2⟩,hs6,hs7⟩,⟨by omega,by omega⟩,?_,rfl,rfl⟩⟩
    simp only [q64] at hv ⊢
    unfold val8 val at *
    omega
   ·rename_i h
    have h:=of_decide_eq_false h
    conv=>whnf
    obtain rfl:c=0:=by omega
    refine ⟨1,_,_,by decide,wk_of (by (repeat' apply And.intro)<;>first | trivial | rfl) (by (repeat' apply And.intro)<;>first | trivial | rfl) (Nat.le_refl _) (Nat.le_refl _),⟨3,_,_,_,_,_,_,_,_,t0,t1,t2,t3,by decide,rfl,hs,by rw [← hT,← hv,Int.mul_zero,Int.add_zero],rfl,rfl⟩⟩
  ·conv=>whnf
   split
   ·rename_i h
    have h:=of_decide_eq_true h
    conv=>whnf
    obtain ⟨hs0,hs1,hs2,hs3,hs4,hs5,hs6,hs7⟩:=hs
    refine ⟨⟨hs6.1,hc.1,Int.le_refl _,Int.zero_le_ofNat 1⟩,?_⟩
    intro s t e1 a1 a2 a3
    conv=>whnf
    refine ⟨1,_,_,by decide,wk_of (by (repeat' apply And.intro)<;>first | trivial | rfl) (by (repeat' apply And.intro)<;>first | trivial | rfl) (Nat.le_refl _) (Nat.le_refl _),⟨7,t,s0,s1,s2,s3,s4,s5,s,s7,t0,t1,t2,t3,by decide,by decide,rfl,⟨hs0,hs1,hs2,hs3,hs4,hs5,⟨a1,a2⟩,hs7⟩,⟨by omega,by omega⟩,?_,rfl,rfl⟩⟩
    simp only [q64] at hv ⊢
    unfold val8 val at *
    omega
   ·rename_i h
    have h:=of_decide_eq_false h
    conv=>whnf
    obtain rfl:c=0:=by omega
    refine ⟨1,_,_,by decide,wk_of (by (repeat' apply And.intro)<;>first | trivial | rfl) (by (repeat' apply And.intro)<;>first | trivial | rfl) (Nat.le_refl _) (Nat.le_refl _),⟨3,_,_,_,_,_,_,_,_,t0,t1,t2,t3,by decide,rfl,hs,by rw [← hT,← hv,Int.mul_zero,Int.add_zero],rfl,rfl⟩⟩
  ·conv=>whnf
   split
   ·rename_i h
    have h:=of_decide_eq_true h
    conv=>whnf
    obtain ⟨hs0,hs1,hs2,hs3,hs4,hs5,hs6,hs7⟩:=hs
    refine ⟨⟨hs7.1,hc.1,Int.le_refl _,Int.zero_le_ofNat 1⟩,?_⟩
    intro s t e1 a1 a2 a3
    conv=>whnf
    refine ⟨0,_,_,by decide,wk_of (by (repeat' apply And.intro)<;>first | trivial | rfl) (by (repeat' apply And.intro)<;>first | trivial | rfl) (Nat.le_refl _) (Nat.le_refl _),⟨8,t,s0,s1,s2,s3,s4,s5,s6,s,t0,t1,t2,t3,by decide,by decide,rfl,⟨hs0,hs1,hs2,hs3,hs4,hs5,hs6,⟨a1,a2⟩⟩,⟨by omega,by omega⟩,?_,rfl,rfl⟩⟩
    simp only [q64] at hv ⊢
    unfold val8 val at *
    omega
   ·rename_i h
    have h:=of_decide_eq_false h
    conv=>whnf
    obtain rfl:c=0:=by omega
    refine ⟨1,_,_,by decide,wk_of (by (repeat' apply And.intro)<;>first | trivial | rfl) (by (repeat' apply And.intro)<;>first | trivial | rfl) (Nat.le_refl _) (Nat.le_refl _),⟨3,_,_,_,_,_,_,_,_,t0,t1,t2,t3,by decide,rfl,hs,by rw [← hT,← hv,Int.mul_zero,Int.add_zero],rfl,rfl⟩⟩
  ·conv=>whnf
   obtain rfl:c=0:=by
    obtain ⟨hs0,hs1,hs2,hs3,hs4,hs5,hs6,hs7⟩:=hs
    simp only [q64] at hv
    unfold val8 val at hv
    omega
   refine ⟨1,_,_,by decide,wk_of (by (repeat' apply And.intro)<;>first | trivial | rfl) (by (repeat' apply And.intro)<;>first | trivial | rfl) (Nat.le_refl _) (Nat.le_refl _),⟨3,_,_,_,_,_,_,_,_,t0,t1,t2,t3,by decide,rfl,hs,by rw [← hT,← hv,Int.mul_zero,Int.add_zero],rfl,rfl⟩⟩
 ·refine ⟨3,_,_,wk_of (by (repeat' apply And.intro)<;>first | trivial | rfl | exact congrArg (fun x=>some (TV.one x)) (congrArg (Sc.int .u64) (c2.trans hq2.symm))) (by (repeat' apply And.intro)<;>first | trivial | rfl) (Nat.le_refl _) (Nat.le_refl _),⟨5,q2,r0,r1,y0,y1,y2,r5,r6,r7,t0,t1,t2,t3,by decide,by decide,rfl,hI,f2,hE,rfl,rfl⟩⟩

set_option maxHeartbeats 4000000 in
theorem mid3 {D:MD} (hD:D.Ok) {w0 w1 w2 w3 w4 w5 w6 w7 r0 r1 r2 r3 r4 r5 r6 r7:Int} {t0 t1 t2 t3:Nat} (hw:In8 w0 w1 w2 w3 w4 w5 w6 w7) (hr:In8 r0 r1 r2 r3 r4 r5 r6 r7) (hE0:val8 r0 r1 r2 r3 r4 r5 r6 r7=val w0 w1 w2 w3+hp w4 w5 w6 w7 3*D.L) (W0:World) (Q:Exit→Env→Mem→Prop) :
  swp (GG W0) (lp F_ref03_fold 2) (fun x e1 m1=>match x with
   | .normal=>∃ j e2 m2,j<4-3∧Wk (mem3 D w0 w1 w2 w3 w4 w5 w6 w7 t0 t1 t2 [some ⟨[u r0,u r1,u r2,u r3,u r4,u r5,u r6,u r7],t3,0,false⟩]).length e1 m1 e2 m2∧MidI D w0 w1 w2 w3 w4 w5 w6 w7 j e2 m2
   | x=>Q x e1 m1) ((7,.one (.int .i64 (3:Nat)))::(5,.one (.ptr (some (.loc 3 0))))::env3) (mem3 D w0 w1 w2 w3 w4 w5 w6 w7 t0 t1 t2 [some ⟨[u r0,u r1,u r2,u r3,u r4,u r5,u r6,u r7],t3,0,false⟩]):=by
 obtain ⟨hw0,hw1,hw2,hw3,hw4,hw5,hw6,hw7⟩:=hw
 obtain ⟨hr0,hr1,hr2,hr3,hr4,hr5,hr6,hr7⟩:=hr
 have z0:InU 0:=⟨by omega,by omega⟩
 conv=>whnf
 refine .inl ⟨4,?_⟩
 conv=>whnf
 refine ⟨⟨hw7.1,hw7.2,hD.l0.1,hD.l0.2⟩,?_⟩
 intro hi lo e0 a1 a2 a3 a4 a5
 conv=>whnf
 refine ⟨⟨a3,hr3.1,Int.le_refl _,Int.zero_le_ofNat 1⟩,?_⟩
 intro x k e1 a6 a7 a8
 conv=>whnf
 refine ⟨⟨a6,Int.le_refl _,Int.le_refl _,Int.zero_le_ofNat 1⟩,?_⟩
 intro y0 l e2 g00 g01 a9
 obtain ⟨c0,d0,f0⟩:=mac e0 a1 a3 a4 a5 hr3 z0 e1 a6 a7 a8 e2 g00 g01 a9
 obtain ⟨q0,hq0⟩:∃ q,q=hi+k+l:=⟨_,rfl⟩
 rw [← hq0] at d0 f0
 clear e0 a1 a2 a3 a4 a5 e1 a6 a7 a8 e2 a9
 conv=>whnf
 refine ⟨⟨hw7.1,hw7.2,hD.l1.1,hD.l1.2⟩,?_⟩
 intro hi lo e0 a1 a2 a3 a4 a5
 conv=>whnf
 refine ⟨⟨a3,hr4.1,Int.le_refl _,Int.zero_le_ofNat 1⟩,?_⟩
 intro x k e1 a6 a7 a8
 conv=>whnf
 rw [c0]
 rw [← hq0]
 refine ⟨⟨a6,f0.1,Int.le_refl _,Int.zero_le_ofNat 1⟩,?_⟩
 intro y1 l e2 g10 g11 a9
 obtain ⟨c1,d1,f1⟩:=mac e0 a1 a3 a4 a5 hr4 f0 e1 a6 a7 a8 e2 g10 g11 a9
 obtain ⟨q1,hq1⟩:∃ q,q=hi+k+l:=⟨_,rfl⟩
 rw [← hq1] at d1 f1
 clear e0 a1 a2 a3 a4 a5 e1 a6 a7 a8 e2 a9
 conv=>whnf
 refine ⟨⟨hw7.1,hw7.2,hD.l2'.1,hD.l2'.2⟩,?_⟩
 intro hi lo e0 a1 a2 a3 a4 a5
 conv=>whnf
 refine ⟨⟨a3,hr5.1,Int.le_refl _,Int.zero_le_ofNat 1⟩,?_⟩
 intro x k e1 a6 a7 a8
 conv=>whnf
 rw [c1]
 rw [← hq1]
 refine ⟨⟨a6,f1.1,Int.le_refl _,Int.zero_le_ofNat 1⟩,?_⟩
 intro y2 l e2 g20 g21 a9
 obtain ⟨c2,d2,f2⟩:=mac e0 a1 a3 a4 a5 hr5 f1 e1 a6 a7 a8 e2 g20 g21 a9
 obtain ⟨q2,hq2⟩:∃ q,q=hi+k+l:=⟨_,rfl⟩
 rw [← hq2] at d2 f2
 clear e0 a1 a2 a3 a4 a5 e1 a6 a7 a8 e2 a9
 conv=>whnf
 have hL:=mul_L D w7
 have hS:=hp_succ D w4 w5 w6 w7
 obtain ⟨T,hT⟩:∃ T,T=val w0 w1 w2 w3+hp w4 w5 w6 w7 4*D.L:=⟨_,rfl⟩
 have hTb:=hp_bound hD ⟨hw0,hw1,hw2,hw3,hw4,hw5,hw6,hw7⟩ (by decide) hT
 have hE:val8 r0 r1 r2 y0 y1 y2 r6 r7+q64 6*q2=T:=by
  rw [hT,hS.2.2.2.2,hL]
  clear hT hTb hL hS c2 hq0 hq1 hq2
  generalize w7*D.l0=Q0 at *
  generalize w7*D.l1=Q1 at *
  generalize w7*D.l2=Q2 at *
  generalize hp w4 w5 w6 w7 3*D.L=G at *
  unfold val8 val at *
  simp only [q64]
  omega
 have hcw:wr .u64 ((_:Int)%18446744073709551616+_)=u q2:=congrArg (Sc.int .u64) (c2.trans hq2.symm)
 have hI:In8 r0 r1 r2 y0 y1 y2 r6 r7:=⟨hr0,hr1,hr2,⟨g00,g01⟩,⟨g10,g11⟩,⟨g20,g21⟩,hr6,hr7⟩
 clear hL hS d0 d1 d2 c0 c1 hq0 hq1 hE0 g00 g01 g10 g11 g20 g21 f0 f1
 refine .inr (loop_inv (gOk W0) (CarI D w0 w1 w2 w3 w4 w5 w6 w7 T 3) ?_ ?_)
 ·intro k e' m' hC
  clear hE hI hcw c2 hq2
  obtain ⟨j,c,s0,s1,s2,s3,s4,s5,s6,s7,t0,t1,t2,t3,hj3,hj8,rfl,hs,hc,hv,rfl,rfl⟩:=hC
  obtain rfl | rfl | rfl | rfl | rfl | rfl:j=3∨j=4∨j=5∨j=6∨j=7∨j=8:=by omega
  ·conv=>whnf
   split
   ·rename_i h
    have h:=of_decide_eq_true h
    conv=>whnf
    obtain ⟨hs0,hs1,hs2,hs3,hs4,hs5,hs6,hs7⟩:=hs
    refine ⟨⟨hs3.1,hc.1,Int.le_refl _,Int.zero_le_ofNat 1⟩,?_⟩
    intro s t e1 a1 a2 a3
    conv=>whnf
    refine ⟨4,_,_,by decide,wk_of (by (repeat' apply And.intro)<;>first | trivial | rfl) (by (repeat' apply And.intro)<;>first | trivial | rfl) (Nat.le_refl _) (Nat.le_refl _),⟨4,t,s0,s1,s2,s,s4,s5,s6,s7,t0,t1,t2,t3,by decide,by decide,rfl,⟨hs0,hs1,hs2,⟨a1,a2⟩,hs4,hs5,hs6,hs7⟩,⟨by omega,by omega⟩,?_,rfl,rfl⟩⟩
    simp only [q64] at hv ⊢
    unfold val8 val at *
    omega
   ·rename_i h
    have h:=of_decide_eq_false h
    conv=>whnf
    obtain rfl:c=0:=by omega
    refine ⟨0,_,_,by decide,wk_of (by (repeat' apply And.intro)<;>first | trivial | rfl) (by (repeat' apply And.intro)<;>first | trivial | rfl) (Nat.le_refl _) (Nat.le_refl _),⟨4,_,_,_,_,_,_,_,_,t0,t1,t2,t3,by decide,rfl,hs,by rw [← hT,← hv,Int.mul_zero,Int.add_zero],rfl,rfl⟩⟩
  ·conv=>whnf
   split
   ·rename_i h
    have h:=of_decide_eq_true h
    conv=>whnf
    obtain ⟨hs0,hs1,hs2,hs3,hs4,hs5,hs6,hs7⟩:=hs
    refine ⟨⟨hs4.1,hc.1,Int.le_refl _,Int.zero_le_ofNat 1⟩,?_⟩
    intro s t e1 a1 a2 a3
    conv=>whnf
    refine ⟨3,_,_,by decide,wk_of (by (repeat' apply And.intro)<;>first | trivial | rfl) (by (repeat' apply And.intro)<;>first | trivial | rfl) (Nat.le_refl _) (Nat.le_refl _),⟨5,t,s0,s1,s2,s3,s,s5,s6,s7,t0,t1,t2,t3,by decide,by decide,rfl,⟨hs0,hs1,hs2,hs3,⟨a1,a2⟩,hs5,hs6,hs7⟩,⟨by omega,by omega⟩,?_,rfl,rfl⟩⟩
    simp only [q64] at hv ⊢
    unfold val8 val at *
    omega
   ·rename_i h
    have h:=of_decide_eq_false h
    conv=>whnf
    obtain rfl:c=0:=by omega
    refine ⟨0,_,_,by decide,wk_of (by (repeat' apply And.intro)<;>first | trivial | rfl) (by (repeat' apply And.intro)<;>first | trivial | rfl) (Nat.le_refl _) (Nat.le_refl _),⟨4,_,_,_,_,_,_,_,_,t0,t1,t2,t3,by decide,rfl,hs,by rw [← hT,← hv,Int.mul_zero,Int.add_zero],rfl,rfl⟩⟩
  ·conv=>whnf
   split
   ·rename_i h
    have h:=of_decide_eq_true h
    conv=>whnf
    obtain ⟨hs0,hs1,hs2,hs3,hs4,hs5,hs6,hs7⟩:=hs
    refine ⟨⟨hs5.1,hc.1,Int.le_refl _,Int.zero_le_ofNat 1⟩,?_⟩
    intro s t e1 a1 a2 a3
    conv=>whnf
    refine ⟨2,_,_,by decide,wk_of (by (repeat' apply And.intro)<;>first | trivial | rfl) (by (repeat' apply And.intro)<;>first | trivial | rfl) (Nat.le_refl _) (Nat.le_refl _),⟨6,t,s0,s1,s2,s3,s4,s,s6,s7,t0,t1,t2,t3,by decide,by decide,rfl,⟨hs0,hs1,hs2,hs3,hs4,⟨a1,a2⟩,hs6,hs7⟩,⟨by omega,by omega⟩,?_,rfl,rfl⟩⟩
    simp only [q64] at hv ⊢
    unfold val8 val at *
    omega
   ·rename_i h
    have h:=of_decide_eq_false h
    conv=>whnf
    obtain rfl:c=0:=by omega
    refine ⟨0,_,_,by decide,wk_of (by (repeat' apply And.intro)<;>first | trivial | rfl) (by (repeat' apply And.intro)<;>first | trivial | rfl) (Nat.le_refl _) (Nat.le_refl _),⟨4,_,_,_,_,_,_,_,_,t0,t1,t2,t3,by decide,rfl,hs,by rw [← hT,← hv,Int.mul_zero,Int.add_zero],rfl,rfl⟩⟩
  ·conv=>whnf
   split
   ·rename_i h
    have h:=of_decide_eq_true h
    conv=>whnf
    obtain ⟨hs0,hs1,hs2,hs3,hs4,hs5,hs6,hs7⟩:=hs
    refine ⟨⟨hs6.1,hc.1,Int.le_refl _,Int.zero_le_ofNat 1⟩,?_⟩
    intro s t e1 a1 a2 a3
    conv=>whnf
    refine ⟨1,_,_,by decide,wk_of (by (repeat' apply And.intro)<;>first | trivial | rfl) (by (repeat' apply And.intro)<;>first | trivial | rfl) (Nat.le_refl _) (Nat.le_refl _),⟨7,t,s0,s1,s2,s3,s4,s5,s,s7,t0,t1,t2,t3,by decide,by decide,rfl,⟨hs0,hs1,hs2,hs3,hs4,hs5,⟨a1,a2⟩,hs7⟩,⟨by omega,by omega⟩,?_,rfl,rfl⟩⟩
    simp only [q64] at hv ⊢
    unfold val8 val at *
    omega
   ·rename_i h
    have h:=of_decide_eq_false h
    conv=>whnf
    obtain rfl:c=0:=by omega
    refine ⟨0,_,_,by decide,wk_of (by (repeat' apply And.intro)<;>first | trivial | rfl) (by (repeat' apply And.intro)<;>first | trivial | rfl) (Nat.le_refl _) (Nat.le_refl _),⟨4,_,_,_,_,_,_,_,_,t0,t1,t2,t3,by decide,rfl,hs,by rw [← hT,← hv,Int.mul_zero,Int.add_zero],rfl,rfl⟩⟩
  ·conv=>whnf
   split
   ·rename_i h
    have h:=of_decide_eq_true h
    conv=>whnf
    obtain ⟨hs0,hs1,hs2,hs3,hs4,hs5,hs6,hs7⟩:=hs
    refine ⟨⟨hs7.1,hc.1,Int.le_refl _,Int.zero_le_ofNat 1⟩,?_⟩
    intro s t e1 a1 a2 a3
    conv=>whnf
    refine ⟨0,_,_,by decide,wk_of (by (repeat' apply And.intro)<;>first | trivial | rfl) (by (repeat' apply And.intro)<;>first | trivial | rfl) (Nat.le_refl _) (Nat.le_refl _),⟨8,t,s0,s1,s2,s3,s4,s5,s6,s,t0,t1,t2,t3,by decide,by decide,rfl,⟨hs0,hs1,hs2,hs3,hs4,hs5,hs6,⟨a1,a2⟩⟩,⟨by omega,by omega⟩,?_,rfl,rfl⟩⟩
    simp only [q64] at hv ⊢
    unfold val8 val at *
    omega
   ·rename_i h
    have h:=of_decide_eq_false h
    conv=>whnf
    obtain rfl:c=0:=by omega
    refine ⟨0,_,_,by decide,wk_of (by (repeat' apply And.intro)<;>first | trivial | rfl) (by (repeat' apply And.intro)<;>first | trivial | rfl) (Nat.le_refl _) (Nat.le_refl _),⟨4,_,_,_,_,_,_,_,_,t0,t1,t2,t3,by decide,rfl,hs,by rw [← hT,← hv,Int.mul_zero,Int.add_zero],rfl,rfl⟩⟩
  ·conv=>whnf
   obtain rfl:c=0:=by
    obtain ⟨hs0,hs1,hs2,hs3,hs4,hs5,hs6,hs7⟩:=hs
    simp only [q64] at hv
    unfold val8 val at hv
    omega
   refine ⟨0,_,_,by decide,wk_of (by (repeat' apply And.intro)<;>first | trivial | rfl) (by (repeat' apply And.intro)<;>first | trivial | rfl) (Nat.le_refl _) (Nat.le_refl _),⟨4,_,_,_,_,_,_,_,_,t0,t1,t2,t3,by decide,rfl,hs,by rw [← hT,← hv,Int.mul_zero,Int.add_zero],rfl,rfl⟩⟩
 ·refine ⟨2,_,_,wk_of (by (repeat' apply And.intro)<;>first | trivial | rfl | exact congrArg (fun x=>some (TV.one x)) (congrArg (Sc.int .u64) (c2.trans hq2.symm))) (by (repeat' apply And.intro)<;>first | trivial | rfl) (Nat.le_refl _) (Nat.le_refl _),⟨6,q2,r0,r1,r2,y0,y1,y2,r6,r7,t0,t1,t2,t3,by decide,by decide,rfl,hI,f2,hE,rfl,rfl⟩⟩

theorem fold_next {D:MD} (hD:D.Ok) {w0 w1 w2 w3 w4 w5 w6 w7 r0 r1 r2 r3 r4 r5 r6 r7:Int} (hw:In8 w0 w1 w2 w3 w4 w5 w6 w7) (_:In8 r0 r1 r2 r3 r4 r5 r6 r7) {k:Nat} (hk1:1≤k) (hk5:k≤5) (hb:val8 w0 w1 w2 w3 w4 w5 w6 w7<foldB k) (hh:0<val w4 w5 w6 w7)
  (hE:val8 r0 r1 r2 r3 r4 r5 r6 r7=val w0 w1 w2 w3+hp w4 w5 w6 w7 4*D.L):2≤k∧val8 r0 r1 r2 r3 r4 r5 r6 r7<foldB (k-1)∧val8 r0 r1 r2 r3 r4 r5 r6 r7%D.M=val8 w0 w1 w2 w3 w4 w5 w6 w7%D.M:=by
 have hL:=hD.L
 have hs:=hD.sum
 have hlo:0≤val w0 w1 w2 w3∧val w0 w1 w2 w3<115792089237316195423570985008687907853269984665640564039457584007913129639936:=by
  obtain ⟨h0,h1,h2,h3,_⟩:=hw
  unfold val
  exact ⟨by omega,by omega⟩
 have e:hp w4 w5 w6 w7 4=val w4 w5 w6 w7:=rfl
 rw [e] at hE
 have hhi:val w4 w5 w6 w7<115792089237316195423570985008687907853269984665640564039457584007913129639936:=by
  obtain ⟨_,_,_,_,h0,h1,h2,h3⟩:=hw
  unfold val
  omega
 rw [hE]
 clear hE e hw
 unfold val8 at *
 generalize val w4 w5 w6 w7=h at *
 generalize val w0 w1 w2 w3=lo at *
 have hm:=Int.mul_le_mul_of_nonneg_left (Int.le_of_lt hL.2) (Int.le_of_lt hh)
 refine ⟨?_,?_,?_⟩
 ·obtain rfl | hk:k=1∨2≤k:=by omega
  ·simp only [foldB] at hb
   omega
  ·exact hk
 ·obtain rfl | rfl | rfl | rfl | rfl:k=1∨k=2∨k=3∨k=4∨k=5:=by omega
  all_goals simp only [foldB] at hb ⊢
  all_goals omega
 ·have hx:h*D.L=115792089237316195423570985008687907853269984665640564039457584007913129639936*h-D.M*h:=by
   rw [show D.L=115792089237316195423570985008687907853269984665640564039457584007913129639936-D.M by omega,Int.mul_sub,Int.mul_comm h,Int.mul_comm h]
  have:lo+h*D.L=lo+115792089237316195423570985008687907853269984665640564039457584007913129639936*h+D.M*(-h):=by
   rw [hx,Int.mul_neg]
   omega
  rw [this,Int.add_mul_emod_self_left]

theorem or4 {a b c d:Int} (ha:InU a) (hb:InU b) (hc:InU c) (hd:InU d):decide (or2 (or2 (or2 a b) c) d > 0)=decide (0<val a b c d):=by
 have h1:=or_u ha hb
 have h2:=or_u h1.2.1 hc
 have h3:=or_u h2.2.1 hd
 have e1:=h1.2.2
 have e2:=h2.2.2
 have e3:=h3.2.2
 have i3:=h3.2.1
 apply decide_eq_decide.2
 clear h1 h2 h3
 generalize or2 (or2 (or2 a b) c) d=z at *
 rw [e2,e1] at e3
 unfold val
 omega

set_option maxHeartbeats 4000000 in
theorem refFold_fn {D:MD} (hD:D.Ok) {w0 w1 w2 w3 w4 w5 w6 w7:Int} (hw:In8 w0 w1 w2 w3 w4 w5 w6 w7):Fn PG f_ref03_fold [D.tv,.agg [u w0,u w1,u w2,u w3,u w4,u w5,u w6,u w7]] (W (val8 w0 w1 w2 w3 w4 w5 w6 w7%D.M)):=by
 obtain ⟨V,hV⟩:∃ V,V=val8 w0 w1 w2 w3 w4 w5 w6 w7:=⟨_,rfl⟩
 rw [← hV]
 have z0:InU 0:=⟨by omega,by omega⟩
 refine fn_go h_ref03_fold rfl (by kernel_rfl) (fun _=>by kernel_rfl) rfl rfl fun W0=>?_
 conv=>whnf
 refine .inr (loop_inv (gOk W0) (FoldI D V) ?_ ?_)
 ·clear hw hV
  intro k e' m' hI
  obtain ⟨w0,w1,w2,w3,w4,w5,w6,w7,t0,t1,t2,hw,hk1,hk5,hmod,hbnd,rfl,rfl⟩:=hI
  obtain ⟨hw0,hw1,hw2,hw3,hw4,hw5,hw6,hw7⟩:=hw
  conv=>whnf
  rw [(or_u hw4 hw5).1,(or_u (or_u hw4 hw5).2.1 hw6).1,(or_u (or_u (or_u hw4 hw5).2.1 hw6).2.1 hw7).1,or4 hw4 hw5 hw6 hw7]
  split
  ·rename_i hh
   have hh:=of_decide_eq_true hh
   conv=>whnf
   refine .inl ⟨5,?_⟩
   conv=>whnf
   refine .inr (loop_inv (gOk W0) (MidI D w0 w1 w2 w3 w4 w5 w6 w7) ?_ ?_)
   ·intro k2 e' m' hI
    obtain ⟨i,r0,r1,r2,r3,r4,r5,r6,r7,t0,t1,t2,t3,hi4,rfl,hr,hE0,rfl,rfl⟩:=hI
    obtain rfl | rfl | rfl | rfl | rfl:i=0∨i=1∨i=2∨i=3∨i=4:=by omega
    ·exact mid0 hD ⟨hw0,hw1,hw2,hw3,hw4,hw5,hw6,hw7⟩ hr hE0 W0 _
    ·exact mid1 hD ⟨hw0,hw1,hw2,hw3,hw4,hw5,hw6,hw7⟩ hr hE0 W0 _
    ·exact mid2 hD ⟨hw0,hw1,hw2,hw3,hw4,hw5,hw6,hw7⟩ hr hE0 W0 _
    ·exact mid3 hD ⟨hw0,hw1,hw2,hw3,hw4,hw5,hw6,hw7⟩ hr hE0 W0 _
    ·conv=>whnf
     have hn:=fold_next hD ⟨hw0,hw1,hw2,hw3,hw4,hw5,hw6,hw7⟩ hr hk1 hk5 hbnd hh hE0
     refine ⟨k-1,_,_,by omega,wk_of (by (repeat' apply And.intro)<;>first | trivial | rfl) (by (repeat' apply And.intro)<;>first | trivial | rfl) (by exact Nat.le_succ 3) (by exact Nat.le_refl 3),⟨_,_,_,_,_,_,_,_,t0,t1,t2,hr,by omega,by omega,hn.2.2.trans hmod,hn.2.1,rfl,rfl⟩⟩
   ·refine ⟨4,_,_,wk_of (by (repeat' apply And.intro)<;>first | trivial | rfl) (by (repeat' apply And.intro)<;>first | trivial | rfl) (Nat.le_refl _) (Nat.le_refl _),⟨0,w0,w1,w2,w3,0,0,0,0,_,_,_,_,by decide,by decide,⟨hw0,hw1,hw2,hw3,z0,z0,z0,z0⟩,?_,rfl,rfl⟩⟩
    rw [(hp_succ D w4 w5 w6 w7).1]
    unfold val8
    show _+_*0=_
    omega
  ·rename_i hh
   have hh:=of_decide_eq_false hh
   conv=>whnf
   have e0:val8 w0 w1 w2 w3 w4 w5 w6 w7=val w0 w1 w2 w3:=by unfold val8 val at *; omega
   have hN:=refNorm_fn hD (x:=val w0 w1 w2 w3) ⟨by unfold val; omega,by unfold val; omega⟩
   rw [← e0,hmod,e0] at hN
   unfold W at hN
   rw [words_val hw0 hw1 hw2 hw3] at hN
   refine ⟨_,hN.2 _ _,rfl,?_⟩
   conv=>whnf
   rfl
 ·refine ⟨5,_,_,wk_of (by (repeat' apply And.intro)<;>first | trivial | rfl) (by (repeat' apply And.intro)<;>first | trivial | rfl) (Nat.le_refl _) (Nat.le_refl _),⟨w0,w1,w2,w3,w4,w5,w6,w7,_,_,_,hw,by decide,by decide,by rw [hV],?_,rfl,rfl⟩⟩
  obtain ⟨hw0,hw1,hw2,hw3,hw4,hw5,hw6,hw7⟩:=hw
  simp only [foldB]
  unfold val8 val
  omega

end Go.Ev

namespace Go.Ev

theorem refAdd_fn {D:MD} (hD:D.Ok) {x y:Int} (hx:InW x) (hy:InW y):Fn PG f_ref03_Add [D.tv,W x,W y] (W ((x+y)%D.M)):=by
 obtain ⟨a0,a1,a2,a3,h0,h1,h2,h3,rfl⟩:=split4 hx
 obtain ⟨b0,b1,b2,b3,g0,g1,g2,g3,rfl⟩:=split4 hy
 simp only [W,words_val h0 h1 h2 h3,words_val g0 g1 g2 g3]
 have z0:InU 0:=⟨by omega,by omega⟩
 refine fn_go h_ref03_Add rfl (by kernel_rfl) (fun _=>by kernel_rfl) rfl rfl fun W0=>?_
 conv=>whnf
 refine .inl ⟨5,?_⟩
 conv=>whnf
 refine ⟨by omega,?_⟩
 intro s0 c0 e0 l0 u0 p0
 conv=>whnf
 refine ⟨by omega,?_⟩
 intro s1 c1 e1 l1 u1 p1
 conv=>whnf
 refine ⟨by omega,?_⟩
 intro s2 c2 e2 l2 u2 p2
 conv=>whnf
 refine ⟨by omega,?_⟩
 intro s3 c3 e3 l3 u3 p3
 conv=>whnf
 have hs:val a0 a1 a2 a3+val b0 b1 b2 b3=val8 s0 s1 s2 s3 c3 0 0 0:=by unfold val8 val; omega
 have hf:=refFold_fn hD (w0:=s0) (w1:=s1) (w2:=s2) (w3:=s3) (w4:=c3) (w5:=0) (w6:=0) (w7:=0) ⟨⟨l0,u0⟩,⟨l1,u1⟩,⟨l2,u2⟩,⟨l3,u3⟩,⟨by omega,by omega⟩,z0,z0,z0⟩
 refine ⟨_,hf.2 _ _,rfl,?_⟩
 conv=>whnf
 rw [hs]
 rfl

theorem refNeg_fn {D:MD} (hD:D.Ok) {x:Int} (hx:InW x):Fn PG f_ref03_Neg [D.tv,W x] (W (-x%D.M)):=by
 refine fn_go h_ref03_Neg rfl (by kernel_rfl) (fun _=>by kernel_rfl) rfl rfl fun W0=>?_
 have hM:=hD.inW
 have hw:W D.M=.agg [u D.m0,u D.m1,u D.m2,u D.m3]:=by unfold W; rw [hD.words]
 have hb:=hD.big
 have hr:0≤x%D.M∧x%D.M<D.M:=⟨Int.emod_nonneg _ (by omega),Int.emod_lt_of_pos _ (by omega)⟩
 have hi:InW (x%D.M):=⟨by omega,by omega⟩
 have hmin:=refMinus_fn hM hi
 rw [hw] at hmin
 have e:(D.M-x%D.M)%115792089237316195423570985008687907853269984665640564039457584007913129639936=D.M-x%D.M:=Int.emod_eq_of_lt (by omega) (by omega)
 rw [e] at hmin
 have hN2:=refNorm_fn hD (x:=D.M-x%D.M) ⟨by omega,by omega⟩
 have e2:(D.M-x%D.M)%D.M = -x%D.M:=by
  have:D.M-x%D.M = -x+D.M*(x/D.M+1):=by
   rw [Int.mul_add,Int.mul_one,Int.emod_def]
   omega
  rw [this,Int.add_mul_emod_self_left]
 rw [e2] at hN2
 conv=>whnf
 refine ⟨_,(refNorm_fn hD hx).2 _ _,rfl,?_⟩
 conv=>whnf
 refine ⟨_,hmin.2 _ _,rfl,?_⟩
 conv=>whnf
 refine ⟨_,hN2.2 _ _,rfl,?_⟩
 conv=>whnf
 rfl

theorem MD.Ok.mod {D:MD} (hD:D.Ok) (x:Int):InW (x%D.M):=by
 have hM:=hD.inW
 have hb:=hD.big
 have hr:0≤x%D.M∧x%D.M<D.M:=⟨Int.emod_nonneg _ (by omega),Int.emod_lt_of_pos _ (by omega)⟩
 exact ⟨by omega,by omega⟩

theorem refSub_fn {D:MD} (hD:D.Ok) {x y:Int} (hx:InW x) (hy:InW y):Fn PG f_ref03_Sub [D.tv,W x,W y] (W ((x-y)%D.M)):=by
 refine fn_go h_ref03_Sub rfl (by kernel_rfl) (fun _=>by kernel_rfl) rfl rfl fun W0=>?_
 have ha:=refAdd_fn hD hx (hD.mod (-y))
 rw [Int.add_emod_emod,← Int.sub_eq_add_neg] at ha
 conv=>whnf
 refine ⟨_,(refNeg_fn hD hy).2 _ _,rfl,?_⟩
 conv=>whnf
 refine ⟨_,ha.2 _ _,rfl,?_⟩
 conv=>whnf
 rfl

theorem mulrow {w0 w1 w2 w3 a b0 b1 b2 b3 y0 y1 y2 y3 q0 q1 q2 q3:Int} (d0:y0+18446744073709551616*q0=w0+0+a*b0) (d1:y1+18446744073709551616*q1=w1+q0+a*b1) (d2:y2+18446744073709551616*q2=w2+q1+a*b2) (d3:y3+18446744073709551616*q3=w3+q2+a*b3) :
  val y0 y1 y2 y3+115792089237316195423570985008687907853269984665640564039457584007913129639936*q3=val w0 w1 w2 w3+a*val b0 b1 b2 b3:=by
 have e:a*val b0 b1 b2 b3=a*b0+18446744073709551616*(a*b1)+340282366920938463463374607431768211456*(a*b2)+6277101735386680763835789423207666416102355444464034512896*(a*b3):=by
  rw [Int.mul_comm a,val_mul,Int.mul_comm b0,Int.mul_comm b1,Int.mul_comm b2,Int.mul_comm b3]
 rw [e]
 generalize a*b0=P0 at *
 generalize a*b1=P1 at *
 generalize a*b2=P2 at *
 generalize a*b3=P3 at *
 unfold val
 omega

theorem wr_eq {x q:Int} (h:x%18446744073709551616=q):wr .u64 x=u q:=congrArg (Sc.int .u64) h

def ap (a0 a1 a2 a3:Int):Nat→Int
 | 0=>0
 | 1=>a0
 | 2=>a0+18446744073709551616*a1
 | 3=>a0+18446744073709551616*a1+340282366920938463463374607431768211456*a2
 | _=>val a0 a1 a2 a3

def mulEnv (i:Nat):Env:=[(8,.one (.int .i64 i)),(7,.one (.ptr (some (.loc 4 0)))),(6,.one (.ptr (some (.loc 3 0)))),(5,.one (.ptr (some (.loc 2 0)))),(4,.one (.ptr (some (.loc 1 0)))),(3,.one (.ptr (some (.loc 0 0))))]
def mulMem (D:MD) (a0 a1 a2 a3 b0 b1 b2 b3:Int) (t0 t1 t2 t3 t4:Nat) (w0 w1 w2 w3 w4 w5 w6 w7:Int):Mem:=[some ⟨dcells D,t0,0,false⟩,some ⟨[u a0,u a1,u a2,u a3],t1,0,false⟩,some ⟨[u b0,u b1,u b2,u b3],t2,0,false⟩,
 some ⟨[u 0,u 0,u 0,u 0],t3,0,false⟩,some ⟨[u w0,u w1,u w2,u w3,u w4,u w5,u w6,u w7],t4,0,false⟩]

def MulI (D:MD) (a0 a1 a2 a3 b0 b1 b2 b3:Int) (k:Nat) (e:Env) (m:Mem):Prop:=
 ∃ (i:Nat) (w0 w1 w2 w3 w4 w5 w6 w7:Int) (t0 t1 t2 t3 t4:Nat),i≤4∧k=4-i∧In8 w0 w1 w2 w3 w4 w5 w6 w7∧val8 w0 w1 w2 w3 w4 w5 w6 w7=ap a0 a1 a2 a3 i*val b0 b1 b2 b3∧(i≤0→w4=0)∧(i≤1→w5=0)∧(i≤2→w6=0)∧(i≤3→w7=0) ∧
  e=mulEnv i∧m=mulMem D a0 a1 a2 a3 b0 b1 b2 b3 t0 t1 t2 t3 t4 w0 w1 w2 w3 w4 w5 w6 w7

theorem ap_succ (a0 a1 a2 a3 b:Int):ap a0 a1 a2 a3 0*b=0∧ap a0 a1 a2 a3 1*b=ap a0 a1 a2 a3 0*b+a0*b∧ap a0 a1 a2 a3 2*b=ap a0 a1 a2 a3 1*b+18446744073709551616*(a1*b) ∧
  ap a0 a1 a2 a3 3*b=ap a0 a1 a2 a3 2*b+340282366920938463463374607431768211456*(a2*b)∧ap a0 a1 a2 a3 4*b=ap a0 a1 a2 a3 3*b+6277101735386680763835789423207666416102355444464034512896*(a3*b):=by
 unfold ap val
 simp only [Int.add_mul,Int.mul_assoc,Int.zero_mul]
 refine ⟨trivial,by omega,trivial,trivial,trivial⟩

set_option maxHeartbeats 4000000 in
theorem mulRow0 {D:MD} {a0 a1 a2 a3 b0 b1 b2 b3 w0 w1 w2 w3 w4 w5 w6 w7:Int} {t0 t1 t2 t3 t4:Nat} (ha:InU a0) (hb:InU b0∧InU b1∧InU b2∧InU b3) (hw:In8 w0 w1 w2 w3 w4 w5 w6 w7) (hE0:val8 w0 w1 w2 w3 w4 w5 w6 w7=ap a0 a1 a2 a3 0*val b0 b1 b2 b3) (z4:w4=0) (z5:w5=0) (z6:w6=0) (z7:w7=0) (W0:World) (Q:Exit→Env→Mem→Prop) :
  swp (GG W0) (lp F_ref03_Mul 0) (fun x e1 m1=>match x with
   | .normal=>∃ j e2 m2,j<4-0∧Wk (mulMem D a0 a1 a2 a3 b0 b1 b2 b3 t0 t1 t2 t3 t4 w0 w1 w2 w3 w4 w5 w6 w7).length e1 m1 e2 m2∧MulI D a0 a1 a2 a3 b0 b1 b2 b3 j e2 m2
   | x=>Q x e1 m1) (mulEnv 0) (mulMem D a0 a1 a2 a3 b0 b1 b2 b3 t0 t1 t2 t3 t4 w0 w1 w2 w3 w4 w5 w6 w7):=by
 obtain ⟨hw0,hw1,hw2,hw3,hw4,hw5,hw6,hw7⟩:=hw
 obtain ⟨hb0,hb1,hb2,hb3⟩:=hb
 have z0:InU 0:=⟨by omega,by omega⟩
 conv=>whnf
 refine .inl ⟨5,?_⟩
 conv=>whnf
 refine ⟨⟨ha.1,ha.2,hb0.1,hb0.2⟩,?_⟩
 intro hi lo e0 a1 a2 a3 a4 a5
 conv=>whnf
 refine ⟨⟨a3,hw0.1,Int.le_refl _,Int.zero_le_ofNat 1⟩,?_⟩
 intro x k e1 a6 a7 a8
 conv=>whnf
 refine ⟨⟨a6,Int.le_refl _,Int.le_refl _,Int.zero_le_ofNat 1⟩,?_⟩
 intro y0 l e2 g0 g1 a9
 obtain ⟨c0,d0,f0⟩:=mac e0 a1 a3 a4 a5 hw0 z0 e1 a6 a7 a8 e2 g0 g1 a9
 have G0:InU y0:=⟨g0,g1⟩
 obtain ⟨q0,hq0⟩:∃ q,q=hi+k+l:=⟨_,rfl⟩
 rw [← hq0] at d0 f0
 clear e0 a1 a2 a3 a4 a5 e1 a6 a7 a8 e2 g0 g1 a9
 conv=>whnf
 refine ⟨⟨ha.1,ha.2,hb1.1,hb1.2⟩,?_⟩
 intro hi lo e0 a1 a2 a3 a4 a5
 conv=>whnf
 refine ⟨⟨a3,hw1.1,Int.le_refl _,Int.zero_le_ofNat 1⟩,?_⟩
 intro x k e1 a6 a7 a8
 conv=>whnf
 rw [c0,← hq0]
 clear c0 hq0
 refine ⟨⟨a6,f0.1,Int.le_refl _,Int.zero_le_ofNat 1⟩,?_⟩
 intro y1 l e2 g0 g1 a9
 obtain ⟨c1,d1,f1⟩:=mac e0 a1 a3 a4 a5 hw1 f0 e1 a6 a7 a8 e2 g0 g1 a9
 have G1:InU y1:=⟨g0,g1⟩
 obtain ⟨q1,hq1⟩:∃ q,q=hi+k+l:=⟨_,rfl⟩
 rw [← hq1] at d1 f1
 clear e0 a1 a2 a3 a4 a5 e1 a6 a7 a8 e2 g0 g1 a9
 conv=>whnf
 refine ⟨⟨ha.1,ha.2,hb2.1,hb2.2⟩,?_⟩
 intro hi lo e0 a1 a2 a3 a4 a5
 conv=>whnf
 refine ⟨⟨a3,hw2.1,Int.le_refl _,Int.zero_le_ofNat 1⟩,?_⟩
 intro x k e1 a6 a7 a8
 conv=>whnf
 rw [c1,← hq1]
 clear c1 hq1
 refine ⟨⟨a6,f1.1,Int.le_refl _,Int.zero_le_ofNat 1⟩,?_⟩
 intro y2 l e2 g0 g1 a9
 obtain ⟨c2,d2,f2⟩:=mac e0 a1 a3 a4 a5 hw2 f1 e1 a6 a7 a8 e2 g0 g1 a9
 have G2:InU y2:=⟨g0,g1⟩
 obtain ⟨q2,hq2⟩:∃ q,q=hi+k+l:=⟨_,rfl⟩
 rw [← hq2] at d2 f2
 clear e0 a1 a2 a3 a4 a5 e1 a6 a7 a8 e2 g0 g1 a9
 conv=>whnf
 refine ⟨⟨ha.1,ha.2,hb3.1,hb3.2⟩,?_⟩
 intro hi lo e0 a1 a2 a3 a4 a5
 conv=>whnf
 refine ⟨⟨a3,hw3.1,Int.le_refl _,Int.zero_le_ofNat 1⟩,?_⟩
 intro x k e1 a6 a7 a8
 conv=>whnf
 rw [c2,← hq2]
 clear c2 hq2
 refine ⟨⟨a6,f2.1,Int.le_refl _,Int.zero_le_ofNat 1⟩,?_⟩
 intro y3 l e2 g0 g1 a9
 obtain ⟨c3,d3,f3⟩:=mac e0 a1 a3 a4 a5 hw3 f2 e1 a6 a7 a8 e2 g0 g1 a9
 have G3:InU y3:=⟨g0,g1⟩
 obtain ⟨q3,hq3⟩:∃ q,q=hi+k+l:=⟨_,rfl⟩
 rw [← hq3] at d3 f3
 clear e0 a1 a2 a3 a4 a5 e1 a6 a7 a8 e2 g0 g1 a9
 have R:=mulrow d0 d1 d2 d3
 clear d0 d1 d2 d3
 have hS:=ap_succ a0 a1 a2 a3 (val b0 b1 b2 b3)
 have hE:val8 y0 y1 y2 y3 q3 w5 w6 w7=ap a0 a1 a2 a3 1*val b0 b1 b2 b3:=by
  rw [hS.2.1,← hE0]
  clear hS c3 hq3 hE0
  generalize a0*val b0 b1 b2 b3=P at *
  unfold val8 val at *
  omega
 conv=>whnf
 rw [wr_eq (c3.trans hq3.symm)]
 refine ⟨3,_,_,by decide,wk_of (by (repeat' apply And.intro)<;>first | trivial | rfl) (by (repeat' apply And.intro)<;>first | trivial | rfl) (Nat.le_refl _) (Nat.le_refl _),⟨1,y0,y1,y2,y3,q3,w5,w6,w7,t0,t1,t2,t3,t4,by decide,by decide,⟨G0,G1,G2,G3,f3,hw5,hw6,hw7⟩,hE,fun h=>absurd h (by decide),fun _=>z5,fun _=>z6,fun _=>z7,rfl,rfl⟩⟩

set_option maxHeartbeats 4000000 in
theorem mulRow1 {D:MD} {a0 a1 a2 a3 b0 b1 b2 b3 w0 w1 w2 w3 w4 w5 w6 w7:Int} {t0 t1 t2 t3 t4:Nat} (ha:InU a1) (hb:InU b0∧InU b1∧InU b2∧InU b3) (hw:In8 w0 w1 w2 w3 w4 w5 w6 w7) (hE0:val8 w0 w1 w2 w3 w4 w5 w6 w7=ap a0 a1 a2 a3 1*val b0 b1 b2 b3) (z5:w5=0) (z6:w6=0) (z7:w7=0) (W0:World) (Q:Exit→Env→Mem→Prop) :
  swp (GG W0) (lp F_ref03_Mul 0) (fun x e1 m1=>match x with
   | .normal=>∃ j e2 m2,j<4-1∧Wk (mulMem D a0 a1 a2 a3 b0 b1 b2 b3 t0 t1 t2 t3 t4 w0 w1 w2 w3 w4 w5 w6 w7).length e1 m1 e2 m2∧MulI D a0 a1 a2 a3 b0 b1 b2 b3 j e2 m2
   | x=>Q x e1 m1) (mulEnv 1) (mulMem D a0 a1 a2 a3 b0 b1 b2 b3 t0 t1 t2 t3 t4 w0 w1 w2 w3 w4 w5 w6 w7):=by
 obtain ⟨hw0,hw1,hw2,hw3,hw4,hw5,hw6,hw7⟩:=hw
 obtain ⟨hb0,hb1,hb2,hb3⟩:=hb
 have z0:InU 0:=⟨by omega,by omega⟩
 conv=>whnf
 refine .inl ⟨5,?_⟩
 conv=>whnf
 refine ⟨⟨ha.1,ha.2,hb0.1,hb0.2⟩,?_⟩
 intro hi lo e0 a1 a2 a3 a4 a5
 conv=>whnf
 refine ⟨⟨a3,hw1.1,Int.le_refl _,Int.zero_le_ofNat 1⟩,?_⟩
 intro x k e1 a6 a7 a8
 conv=>whnf
 refine ⟨⟨a6,Int.le_refl _,Int.le_refl _,Int.zero_le_ofNat 1⟩,?_⟩
 intro y0 l e2 g0 g1 a9
 obtain ⟨c0,d0,f0⟩:=mac e0 a1 a3 a4 a5 hw1 z0 e1 a6 a7 a8 e2 g0 g1 a9
 have G0:InU y0:=⟨g0,g1⟩
 obtain ⟨q0,hq0⟩:∃ q,q=hi+k+l:=⟨_,rfl⟩
 rw [← hq0] at d0 f0
 clear e0 a1 a2 a3 a4 a5 e1 a6 a7 a8 e2 g0 g1 a9
 conv=>whnf
 refine ⟨⟨ha.1,ha.2,hb1.1,hb1.2⟩,?_⟩
 intro hi lo e0 a1 a2 a3 a4 a5
 conv=>whnf
 refine ⟨⟨a3,hw2.1,Int.le_refl _,Int.zero_le_ofNat 1⟩,?_⟩
 intro x k e1 a6 a7 a8
 conv=>whnf
 rw [c0,← hq0]
 clear c0 hq0
 refine ⟨⟨a6,f0.1,Int.le_refl _,Int.zero_le_ofNat 1⟩,?_⟩
 intro y1 l e2 g0 g1 a9
 obtain ⟨c1,d1,f1⟩:=mac e0 a1 a3 a4 a5 hw2 f0 e1 a6 a7 a8 e2 g0 g1 a9
 have G1:InU y1:=⟨g0,g1⟩
 obtain ⟨q1,hq1⟩:∃ q,q=hi+k+l:=⟨_,rfl⟩
 rw [← hq1] at d1 f1
 clear e0 a1 a2 a3 a4 a5 e1 a6 a7 a8 e2 g0 g1 a9
 conv=>whnf
 refine ⟨⟨ha.1,ha.2,hb2.1,hb2.2⟩,?_⟩
 intro hi lo e0 a1 a2 a3 a4 a5
 conv=>whnf
 refine ⟨⟨a3,hw3.1,Int.le_refl _,Int.zero_le_ofNat 1⟩,?_⟩
 intro x k e1 a6 a7 a8
 conv=>whnf
 rw [c1,← hq1]
 clear c1 hq1
 refine ⟨⟨a6,f1.1,Int.le_refl _,Int.zero_le_ofNat 1⟩,?_⟩
 intro y2 l e2 g0 g1 a9
 obtain ⟨c2,d2,f2⟩:=mac e0 a1 a3 a4 a5 hw3 f1 e1 a6 a7 a8 e2 g0 g1 a9
 have G2:InU y2:=⟨g0,g1⟩
 obtain ⟨q2,hq2⟩:∃ q,q=hi+k+l:=⟨_,rfl⟩
 rw [← hq2] at d2 f2
 clear e0 a1 a2 a3 a4 a5 e1 a6 a7 a8 e2 g0 g1 a9
 conv=>whnf
 refine ⟨⟨ha.1,ha.2,hb3.1,hb3.2⟩,?_⟩
 intro hi lo e0 a1 a2 a3 a4 a5
 conv=>whnf
 refine ⟨⟨a3,hw4.1,Int.le_refl _,Int.zero_le_ofNat 1⟩,?_⟩
 intro x k e1 a6 a7 a8
 conv=>whnf
 rw [c2,← hq2]
 clear c2 hq2
 refine ⟨⟨a6,f2.1,Int.le_refl _,Int.zero_le_ofNat 1⟩,?_⟩
 intro y3 l e2 g0 g1 a9
 obtain ⟨c3,d3,f3⟩:=mac e0 a1 a3 a4 a5 hw4 f2 e1 a6 a7 a8 e2 g0 g1 a9
 have G3:InU y3:=⟨g0,g1⟩
 obtain ⟨q3,hq3⟩:∃ q,q=hi+k+l:=⟨_,rfl⟩
 rw [← hq3] at d3 f3
 clear e0 a1 a2 a3 a4 a5 e1 a6 a7 a8 e2 g0 g1 a9
 have R:=mulrow d0 d1 d2 d3
 clear d0 d1 d2 d3
 have hS:=ap_succ a0 a1 a2 a3 (val b0 b1 b2 b3)
 have hE:val8 w0 y0 y1 y2 y3 q3 w6 w7=ap a0 a1 a2 a3 2*val b0 b1 b2 b3:=by
  rw [hS.2.2.1,← hE0]
  clear hS c3 hq3 hE0
  generalize a1*val b0 b1 b2 b3=P at *
  unfold val8 val at *
  omega
 conv=>whnf
 rw [wr_eq (c3.trans hq3.symm)]
 refine ⟨2,_,_,by decide,wk_of (by (repeat' apply And.intro)<;>first | trivial | rfl) (by (repeat' apply And.intro)<;>first | trivial | rfl) (Nat.le_refl _) (Nat.le_refl _),⟨2,w0,y0,y1,y2,y3,q3,w6,w7,t0,t1,t2,t3,t4,by decide,by decide,⟨hw0,G0,G1,G2,G3,f3,hw6,hw7⟩,hE,fun h=>absurd h (by decide),fun h=>absurd h (by decide),fun _=>z6,fun _=>z7,rfl,rfl⟩⟩

set_option maxHeartbeats 4000000 in
theorem mulRow2 {D:MD} {a0 a1 a2 a3 b0 b1 b2 b3 w0 w1 w2 w3 w4 w5 w6 w7:Int} {t0 t1 t2 t3 t4:Nat} (ha:InU a2) (hb:InU b0∧InU b1∧InU b2∧InU b3) (hw:In8 w0 w1 w2 w3 w4 w5 w6 w7) (hE0:val8 w0 w1 w2 w3 w4 w5 w6 w7=ap a0 a1 a2 a3 2*val b0 b1 b2 b3) (z6:w6=0) (z7:w7=0) (W0:World) (Q:Exit→Env→Mem→Prop) :
  swp (GG W0) (lp F_ref03_Mul 0) (fun x e1 m1=>match x with
   | .normal=>∃ j e2 m2,j<4-2∧Wk (mulMem D a0 a1 a2 a3 b0 b1 b2 b3 t0 t1 t2 t3 t4 w0 w1 w2 w3 w4 w5 w6 w7).length e1 m1 e2 m2∧MulI D a0 a1 a2 a3 b0 b1 b2 b3 j e2 m2
   | x=>Q x e1 m1) (mulEnv 2) (mulMem D a0 a1 a2 a3 b0 b1 b2 b3 t0 t1 t2 t3 t4 w0 w1 w2 w3 w4 w5 w6 w7):=by
 obtain ⟨hw0,hw1,hw2,hw3,hw4,hw5,hw6,hw7⟩:=hw
 obtain ⟨hb0,hb1,hb2,hb3⟩:=hb
 have z0:InU 0:=⟨by omega,by omega⟩
 conv=>whnf
 refine .inl ⟨5,?_⟩
 conv=>whnf
 refine ⟨⟨ha.1,ha.2,hb0.1,hb0.2⟩,?_⟩
 intro hi lo e0 a1 a2 a3 a4 a5
 conv=>whnf
 refine ⟨⟨a3,hw2.1,Int.le_refl _,Int.zero_le_ofNat 1⟩,?_⟩
 intro x k e1 a6 a7 a8
 conv=>whnf
 refine ⟨⟨a6,Int.le_refl _,Int.le_refl _,Int.zero_le_ofNat 1⟩,?_⟩
 intro y0 l e2 g0 g1 a9
 obtain ⟨c0,d0,f0⟩:=mac e0 a1 a3 a4 a5 hw2 z0 e1 a6 a7 a8 e2 g0 g1 a9
 have G0:InU y0:=⟨g0,g1⟩
 obtain ⟨q0,hq0⟩:∃ q,q=hi+k+l:=⟨_,rfl⟩
 rw [← hq0] at d0 f0
 clear e0 a1 a2 a3 a4 a5 e1 a6 a7 a8 e2 g0 g1 a9
 conv=>whnf
 refine ⟨⟨ha.1,ha.2,hb1.1,hb1.2⟩,?_⟩
 intro hi lo e0 a1 a2 a3 a4 a5
 conv=>whnf
 refine ⟨⟨a3,hw3.1,Int.le_refl _,Int.zero_le_ofNat 1⟩,?_⟩
 intro x k e1 a6 a7 a8
 conv=>whnf
 rw [c0,← hq0]
 clear c0 hq0
 refine ⟨⟨a6,f0.1,Int.le_refl _,Int.zero_le_ofNat 1⟩,?_⟩
 intro y1 l e2 g0 g1 a9
 obtain ⟨c1,d1,f1⟩:=mac e0 a1 a3 a4 a5 hw3 f0 e1 a6 a7 a8 e2 g0 g1 a9
 have G1:InU y1:=⟨g0,g1⟩
 obtain ⟨q1,hq1⟩:∃ q,q=hi+k+l:=⟨_,rfl⟩
 rw [← hq1] at d1 f1
 clear e0 a1 a2 a3 a4 a5 e1 a6 a7 a8 e2 g0 g1 a9
 conv=>whnf
 refine ⟨⟨ha.1,ha.2,hb2.1,hb2.2⟩,?_⟩
 intro hi lo e0 a1 a2 a3 a4 a5
 conv=>whnf
 refine ⟨⟨a3,hw4.1,Int.le_refl _,Int.zero_le_ofNat 1⟩,?_⟩
 intro x k e1 a6 a7 a8
 conv=>whnf
 rw [c1,← hq1]
 clear c1 hq1
 refine ⟨⟨a6,f1.1,Int.le_refl _,Int.zero_le_ofNat 1⟩,?_⟩
 intro y2 l e2 g0 g1 a9
 obtain ⟨c2,d2,f2⟩:=mac e0 a1 a3 a4 a5 hw4 f1 e1 a6 a7 a8 e2 g0 g1 a9
 have G2:InU y2:=⟨g0,g1⟩
 obtain ⟨q2,hq2⟩:∃ q,q=hi+k+l:=⟨_,rfl⟩
 rw [← hq2] at d2 f2
 clear e0 a1 a2 a3 a4 a5 e1 a6 a7 a8 e2 g0 g1 a9
 conv=>whnf
 refine ⟨⟨ha.1,ha.2,hb3.1,hb3.2⟩,?_⟩
 intro hi lo e0 a1 a2 a3 a4 a5
 conv=>whnf
 refine ⟨⟨a3,hw5.1,Int.le_refl _,Int.zero_le_ofNat 1⟩,?_⟩
 intro x k e1 a6 a7 a8
 conv=>whnf
 rw [c2,← hq2]
 clear c2 hq2
 refine ⟨⟨a6,f2.1,Int.le_refl _,Int.zero_le_ofNat 1⟩,?_⟩
 intro y3 l e2 g0 g1 a9
 obtain ⟨c3,d3,f3⟩:=mac e0 a1 a3 a4 a5 hw5 f2 e1 a6 a7 a8 e2 g0 g1 a9
 have G3:InU y3:=⟨g0,g1⟩
 obtain ⟨q3,hq3⟩:∃ q,q=hi+k+l:=⟨_,rfl⟩
 rw [← hq3] at d3 f3
 clear e0 a1 a2 a3 a4 a5 e1 a6 a7 a8 e2 g0 g1 a9
 have R:=mulrow d0 d1 d2 d3
 clear d0 d1 d2 d3
 have hS:=ap_succ a0 a1 a2 a3 (val b0 b1 b2 b3)
 have hE:val8 w0 w1 y0 y1 y2 y3 q3 w7=ap a0 a1 a2 a3 3*val b0 b1 b2 b3:=by
  rw [hS.2.2.2.1,← hE0]
  clear hS c3 hq3 hE0
  generalize a2*val b0 b1 b2 b3=P at *
  unfold val8 val at *
  omega
 conv=>whnf
 rw [wr_eq (c3.trans hq3.symm)]
 refine ⟨1,_,_,by decide,wk_of (by (repeat' apply And.intro)<;>first | trivial | rfl) (by (repeat' apply And.intro)<;>first | trivial | rfl) (Nat.le_refl _) (Nat.le_refl _),⟨3,w0,w1,y0,y1,y2,y3,q3,w7,t0,t1,t2,t3,t4,by decide,by decide,⟨hw0,hw1,G0,G1,G2,G3,f3,hw7⟩,hE,fun h=>absurd h (by decide),fun h=>absurd h (by decide),fun h=>absurd h (by decide),fun _=>z7,rfl,rfl⟩⟩

set_option maxHeartbeats 4000000 in
theorem mulRow3 {D:MD} {a0 a1 a2 a3 b0 b1 b2 b3 w0 w1 w2 w3 w4 w5 w6 w7:Int} {t0 t1 t2 t3 t4:Nat} (ha:InU a3) (hb:InU b0∧InU b1∧InU b2∧InU b3) (hw:In8 w0 w1 w2 w3 w4 w5 w6 w7) (hE0:val8 w0 w1 w2 w3 w4 w5 w6 w7=ap a0 a1 a2 a3 3*val b0 b1 b2 b3) (z7:w7=0) (W0:World) (Q:Exit→Env→Mem→Prop) :
  swp (GG W0) (lp F_ref03_Mul 0) (fun x e1 m1=>match x with
   | .normal=>∃ j e2 m2,j<4-3∧Wk (mulMem D a0 a1 a2 a3 b0 b1 b2 b3 t0 t1 t2 t3 t4 w0 w1 w2 w3 w4 w5 w6 w7).length e1 m1 e2 m2∧MulI D a0 a1 a2 a3 b0 b1 b2 b3 j e2 m2
   | x=>Q x e1 m1) (mulEnv 3) (mulMem D a0 a1 a2 a3 b0 b1 b2 b3 t0 t1 t2 t3 t4 w0 w1 w2 w3 w4 w5 w6 w7):=by
 obtain ⟨hw0,hw1,hw2,hw3,hw4,hw5,hw6,hw7⟩:=hw
 obtain ⟨hb0,hb1,hb2,hb3⟩:=hb
 have z0:InU 0:=⟨by omega,by omega⟩
 conv=>whnf
 refine .inl ⟨5,?_⟩
 conv=>whnf
 refine ⟨⟨ha.1,ha.2,hb0.1,hb0.2⟩,?_⟩
 intro hi lo e0 a1 a2 a3 a4 a5
 conv=>whnf
 refine ⟨⟨a3,hw3.1,Int.le_refl _,Int.zero_le_ofNat 1⟩,?_⟩
 intro x k e1 a6 a7 a8
 conv=>whnf
 refine ⟨⟨a6,Int.le_refl _,Int.le_refl _,Int.zero_le_ofNat 1⟩,?_⟩
 intro y0 l e2 g0 g1 a9
 obtain ⟨c0,d0,f0⟩:=mac e0 a1 a3 a4 a5 hw3 z0 e1 a6 a7 a8 e2 g0 g1 a9
 have G0:InU y0:=⟨g0,g1⟩
 obtain ⟨q0,hq0⟩:∃ q,q=hi+k+l:=⟨_,rfl⟩
 rw [← hq0] at d0 f0
 clear e0 a1 a2 a3 a4 a5 e1 a6 a7 a8 e2 g0 g1 a9
 conv=>whnf
 refine ⟨⟨ha.1,ha.2,hb1.1,hb1.2⟩,?_⟩
 intro hi lo e0 a1 a2 a3 a4 a5
 conv=>whnf
 refine ⟨⟨a3,hw4.1,Int.le_refl _,Int.zero_le_ofNat 1⟩,?_⟩
 intro x k e1 a6 a7 a8
 conv=>whnf
 rw [c0,← hq0]
 clear c0 hq0
 refine ⟨⟨a6,f0.1,Int.le_refl _,Int.zero_le_ofNat 1⟩,?_⟩
 intro y1 l e2 g0 g1 a9
 obtain ⟨c1,d1,f1⟩:=mac e0 a1 a3 a4 a5 hw4 f0 e1 a6 a7 a8 e2 g0 g1 a9
 have G1:InU y1:=⟨g0,g1⟩
 obtain ⟨q1,hq1⟩:∃ q,q=hi+k+l:=⟨_,rfl⟩
 rw [← hq1] at d1 f1
 clear e0 a1 a2 a3 a4 a5 e1 a6 a7 a8 e2 g0 g1 a9
 conv=>whnf
 refine ⟨⟨ha.1,ha.2,hb2.1,hb2.2⟩,?_⟩
 intro hi lo e0 a1 a2 a3 a4 a5
 conv=>whnf
 refine ⟨⟨a3,hw5.1,Int.le_refl _,Int.zero_le_ofNat 1⟩,?_⟩
 intro x k e1 a6 a7 a8
 conv=>whnf
 rw [c1,← hq1]
 clear c1 hq1
 refine ⟨⟨a6,f1.1,Int.le_refl _,Int.zero_le_ofNat 1⟩,?_⟩
 intro y2 l e2 g0 g1 a9
 obtain ⟨c2,d2,f2⟩:=mac e0 a1 a3 a4 a5 hw5 f1 e1 a6 a7 a8 e2 g0 g1 a9
 have G2:InU y2:=⟨g0,g1⟩
 obtain ⟨q2,hq2⟩:∃ q,q=hi+k+l:=⟨_,rfl⟩
 rw [← hq2] at d2 f2
 clear e0 a1 a2 a3 a4 a5 e1 a6 a7 a8 e2 g0 g1 a9
 conv=>whnf
 refine ⟨⟨ha.1,ha.2,hb3.1,hb3.2⟩,?_⟩
 intro hi lo e0 a1 a2 a3 a4 a5
 conv=>whnf
 refine ⟨⟨a3,hw6.1,Int.le_refl _,Int.zero_le_ofNat 1⟩,?_⟩
 intro x k e1 a6 a7 a8
 conv=>whnf
 rw [c2,← hq2]
 clear c2 hq2
 refine ⟨⟨a6,f2.1,Int.le_refl _,Int.zero_le_ofNat 1⟩,?_⟩
 intro y3 l e2 g0 g1 a9
 obtain ⟨c3,d3,f3⟩:=mac e0 a1 a3 a4 a5 hw6 f2 e1 a6 a7 a8 e2 g0 g1 a9
 have G3:InU y3:=⟨g0,g1⟩
 obtain ⟨q3,hq3⟩:∃ q,q=hi+k+l:=⟨_,rfl⟩
 rw [← hq3] at d3 f3
 clear e0 a1 a2 a3 a4 a5 e1 a6 a7 a8 e2 g0 g1 a9
 have R:=mulrow d0 d1 d2 d3
 clear d0 d1 d2 d3
 have hS:=ap_succ a0 a1 a2 a3 (val b0 b1 b2 b3)
 have hE:val8 w0 w1 w2 y0 y1 y2 y3 q3=ap a0 a1 a2 a3 4*val b0 b1 b2 b3:=by
  rw [hS.2.2.2.2,← hE0]
  clear hS c3 hq3 hE0
  generalize a3*val b0 b1 b2 b3=P at *
  unfold val8 val at *
  omega
 conv=>whnf
 rw [wr_eq (c3.trans hq3.symm)]
 refine ⟨0,_,_,by decide,wk_of (by (repeat' apply And.intro)<;>first | trivial | rfl) (by (repeat' apply And.intro)<;>first | trivial | rfl) (Nat.le_refl _) (Nat.le_refl _),⟨4,w0,w1,w2,y0,y1,y2,y3,q3,t0,t1,t2,t3,t4,by decide,by decide,⟨hw0,hw1,hw2,G0,G1,G2,G3,f3⟩,hE,fun h=>absurd h (by decide),fun h=>absurd h (by decide),fun h=>absurd h (by decide),fun h=>absurd h (by decide),rfl,rfl⟩⟩

set_option maxHeartbeats 1000000 in
theorem refMul_fn {D:MD} (hD:D.Ok) {x y:Int} (hx:InW x) (hy:InW y):Fn PG f_ref03_Mul [D.tv,W x,W y] (W (x*y%D.M)):=by
 obtain ⟨a0,a1,a2,a3,ha0,ha1,ha2,ha3,rfl⟩:=split4 hx
 obtain ⟨b0,b1,b2,b3,hb0,hb1,hb2,hb3,rfl⟩:=split4 hy
 simp only [W,words_val ha0 ha1 ha2 ha3,words_val hb0 hb1 hb2 hb3]
 have z0:InU 0:=⟨by omega,by omega⟩
 clear hx hy
 refine fn_go h_ref03_Mul rfl (by kernel_rfl) (fun _=>by kernel_rfl) rfl rfl fun W0=>?_
 conv=>whnf
 refine .inr (loop_inv (gOk W0) (MulI D a0 a1 a2 a3 b0 b1 b2 b3) ?_ ?_)
 ·intro k e' m' hI
  obtain ⟨i,w0,w1,w2,w3,w4,w5,w6,w7,t0,t1,t2,t3,t4,hi4,rfl,hw,hE,z4,z5,z6,z7,rfl,rfl⟩:=hI
  obtain rfl | rfl | rfl | rfl | rfl:i=0∨i=1∨i=2∨i=3∨i=4:=by omega
  ·exact mulRow0 ha0 ⟨hb0,hb1,hb2,hb3⟩ hw hE (z4 (by decide)) (z5 (by decide)) (z6 (by decide)) (z7 (by decide)) W0 _
  ·exact mulRow1 ha1 ⟨hb0,hb1,hb2,hb3⟩ hw hE (z5 (by decide)) (z6 (by decide)) (z7 (by decide)) W0 _
  ·exact mulRow2 ha2 ⟨hb0,hb1,hb2,hb3⟩ hw hE (z6 (by decide)) (z7 (by decide)) W0 _
  ·exact mulRow3 ha3 ⟨hb0,hb1,hb2,hb3⟩ hw hE (z7 (by decide)) W0 _
  ·conv=>whnf
   have hf:=refFold_fn hD hw
   rw [hE] at hf
   refine ⟨_,hf.2 _ _,rfl,?_⟩
   conv=>whnf
   rfl
 ·refine ⟨4,_,_,wk_of (by (repeat' apply And.intro)<;>first | trivial | rfl) (by (repeat' apply And.intro)<;>first | trivial | rfl) (Nat.le_refl _) (Nat.le_refl _),⟨0,0,0,0,0,0,0,0,0,_,_,_,_,_,by decide,by decide,⟨z0,z0,z0,z0,z0,z0,z0,z0⟩,?_,fun _=>rfl,fun _=>rfl,fun _=>rfl,fun _=>rfl,rfl,rfl⟩⟩
  rw [(ap_succ a0 a1 a2 a3 _).1]
  rfl

end Go.Ev

namespace Go.Ev

theorem and_two (n s:Nat):n &&& 2^s=(n.testBit s).toNat*2^s:=by
 apply Nat.eq_of_testBit_eq
 intro i
 rw [Nat.testBit_and,Nat.testBit_two_pow]
 cases hb:n.testBit s with
 | true=>
  simp only [Bool.toNat_true,Nat.one_mul,Nat.testBit_two_pow]
  by_cases h:s=i
  ·subst h; simp [hb]
  ·simp [h]
 | false=>
  simp only [Bool.toNat_false,Nat.zero_mul,Nat.zero_testBit]
  by_cases h:s=i
  ·subst h; simp [hb]
  ·simp [h]

theorem wrap_u (x:Int):IntKind.u64.wrap x=x%18446744073709551616:=by
 have:=wr_conc Con0 .u64 x
 simp only [wr,Sc.conc,Value.int.injEq,true_and] at this
 exact this.symm

theorem and_bit {z:Int} (hz:InU z) {s:Nat} (hs:s<64):((IntKind.u64).wrap ((BitVec.ofInt (IntKind.u64).bits z &&& BitVec.ofInt (IntKind.u64).bits ((2^s:Nat):Int)).toNat:Int) != 0)=decide (z/2^s%2=1):=by
 obtain ⟨n,rfl⟩:∃ n:Nat,z=n:=⟨z.toNat,by have:=hz.1; omega⟩
 have hn:n<2^64:=by have:=hz.2; omega
 have h2:2^s<2^64:=Nat.pow_lt_pow_right (by omega) hs
 have e1:(BitVec.ofInt (IntKind.u64).bits (n:Int) &&& BitVec.ofInt (IntKind.u64).bits ((2^s:Nat):Int)).toNat=n &&& 2^s:=by
  show (BitVec.ofInt 64 (n:Int) &&& BitVec.ofInt 64 ((2^s:Nat):Int)).toNat=_
  rw [BitVec.ofInt_natCast,BitVec.ofInt_natCast,BitVec.toNat_and,BitVec.toNat_ofNat,BitVec.toNat_ofNat,Nat.mod_eq_of_lt hn,Nat.mod_eq_of_lt h2]
 rw [e1,and_two,Nat.testBit_eq_decide_div_mod_eq]
 have hd:((n:Int)/2^s%2=1)↔(n/2^s%2=1):=by
  have:(n:Int)/2^s%2=((n/2^s%2:Nat):Int):=by simp
  rw [this]; omega
 by_cases h:n/2^s%2=1
 ·rw [decide_eq_true (hd.2 h),decide_eq_true h]
  simp only [Bool.toNat_true,Nat.one_mul]
  have hp:0<2^s:=Nat.pos_of_ne_zero (by simp)
  generalize 2^s=P at *
  rw [wrap_u,Int.emod_eq_of_lt (by omega) (by omega)]
  simp only [bne_iff_ne,ne_eq]
  omega
 ·rw [decide_eq_false (fun hh=>h (hd.1 hh)),decide_eq_false h]
  simp only [Bool.toNat_false,Nat.zero_mul,wrap_u]
  rfl

theorem half_pow (s:Nat):(2^(s+1)/2:Nat)=2^s:=by rw [Nat.pow_succ]; omega

def PwO (D:MD) (x e0 e1 e2 e3:Int) (k:Nat) (e:Env) (m:Mem):Prop:=
 ∃ (i t0 t1 t2 t3 t4:Nat),k=i∧i≤4 ∧
  e=[(8,.one (.int .i64 ((i:Int)-1))),(7,.one (.ptr (some (.loc 4 0)))),(6,.one (.ptr (some (.loc 3 0)))),(5,.one (.ptr (some (.loc 2 0)))),(4,.one (.ptr (some (.loc 1 0)))),(3,.one (.ptr (some (.loc 0 0))))] ∧
  m=[some ⟨dcells D,t0,0,false⟩,some ⟨words x,t1,0,false⟩,some ⟨[u e0,u e1,u e2,u e3],t2,0,false⟩,some ⟨[u 0,u 0,u 0,u 0],t3,0,false⟩,some ⟨words (pw D.M x (val e0 e1 e2 e3) (64*i)),t4,0,false⟩]

def PwN (D:MD) (x e0 e1 e2 e3:Int) (q:Nat) (k:Nat) (e:Env) (m:Mem):Prop:=
 ∃ (s t0 t1 t2 t3 t4:Nat),k=s∧s≤64 ∧
  e=[(9,.one (u ((2^s/2:Nat):Int))),(8,.one (.int .i64 ((q:Int)))),(7,.one (.ptr (some (.loc 4 0)))),(6,.one (.ptr (some (.loc 3 0)))),(5,.one (.ptr (some (.loc 2 0)))),(4,.one (.ptr (some (.loc 1 0)))),(3,.one (.ptr (some (.loc 0 0))))] ∧
  m=[some ⟨dcells D,t0,0,false⟩,some ⟨words x,t1,0,false⟩,some ⟨[u e0,u e1,u e2,u e3],t2,0,false⟩,some ⟨[u 0,u 0,u 0,u 0],t3,0,false⟩,some ⟨words (pw D.M x (val e0 e1 e2 e3) (64*q+s)),t4,0,false⟩]

theorem refPower_fn {D:MD} (hD:D.Ok) {x E:Int} (hx:InW x) (hE:InW E):Fn PG f_ref03_Power [D.tv,W x,W E] (W (x^E.toNat%D.M)):=by
 obtain ⟨e0,e1,e2,e3,h0,h1,h2,h3,rfl⟩:=split4 hE
 simp only [W,words_val h0 h1 h2 h3]
 have hpw:∀ n,InW (pw D.M x (val e0 e1 e2 e3) n):=fun n=>hD.mod _
 refine fn_go h_ref03_Power rfl (by kernel_rfl) (fun _=>by kernel_rfl) rfl rfl fun W0=>?_
 conv=>whnf
 refine ⟨_,(refSmall_fn (n:=1) ⟨by omega,by omega⟩).2 _ _,rfl,?_⟩
 conv=>whnf
 refine .inr (loop_inv (gOk W0) (PwO D x e0 e1 e2 e3) ?_ ?_)
 ·intro k e' m' hI
  obtain ⟨i,t0,t1,t2,t3,t4,rfl,hi,rfl,rfl⟩:=hI
  cases k with
  | zero=>
   conv=>whnf
   have:pw D.M x (val e0 e1 e2 e3) (64*0)=x^(val e0 e1 e2 e3).toNat%D.M:=by unfold pw; simp
   rw [← this]
   rfl
  | succ q=>
   have en:((q+1:Nat):Int)-1=q:=by omega
   rw [en]
   conv=>whnf
   refine .inr (loop_inv (gOk W0) (PwN D x e0 e1 e2 e3 q) ?_ ?_)
   ·intro k e' m' hI
    obtain ⟨s,t0,t1,t2,t3,t4,rfl,hs,rfl,rfl⟩:=hI
    cases k with
    | zero=>
     conv=>whnf
     have hw:wr .i64 ((q:Int)-1)=.int .i64 ((q:Int)-1):=by simp only [wr,i64_dec (s:=q) (by omega)]
     refine ⟨q,_,_,Nat.lt_succ_self _,wk_of (by (repeat' apply And.intro)<;>first | trivial | rfl | exact congrArg (fun x=>some (TV.one x)) hw) (by (repeat' apply And.intro)<;>first | trivial | rfl) (Nat.le_refl _) (Nat.le_refl _),⟨q,t0,t1,t2,t3,t4,rfl,by omega,rfl,rfl⟩⟩
    | succ s=>
     have hr:=hpw (64*q+(s+1))
     have hm:=refMul_fn hD hr hr
     have hm2:=refMul_fn hD (hD.mod (pw D.M x (val e0 e1 e2 e3) (64*q+(s+1))*pw D.M x (val e0 e1 e2 e3) (64*q+(s+1)))) hx
     have hbits:=bit_word h0 h1 h2 h3 s (by omega)
     rw [half_pow]
     have hpos:decide (((2^s:Nat):Int) > 0)=true:=decide_eq_true (by have:0<2^s:=Nat.pos_of_ne_zero (by simp); generalize 2^s=P at *; omega)
     have hq:wr .u64 ((((2^s:Nat):Int)).tdiv 2)=u ((2^s/2:Nat):Int):=by
      have hlt:2^s<2^64:=Nat.pow_lt_pow_right (by omega) (by omega)
      generalize 2^s=P at *
      simp only [wr,u]
      congr 1
      rw [Int.tdiv_eq_ediv_of_nonneg (by omega)]
      omega
     conv=>whnf
     rw [hpos]
     conv=>whnf
     obtain rfl | rfl | rfl | rfl:q=0∨q=1∨q=2∨q=3:=by omega
     ·have hbv:val e0 e1 e2 e3/2^(64*0+s)%2=e0/2^s%2:=by
       rw [show 64*0+s=s by omega]
       exact hbits.1
      refine ⟨_,hm.2 _ _,rfl,?_⟩
      conv=>whnf
      rw [and_bit h0 (by omega)]
      split
      ·rename_i hbt
       have hbit:val e0 e1 e2 e3/2^(64*0+s)%2=1:=by rw [hbv]; exact of_decide_eq_true hbt
       have hps:=pw_step (M:=D.M) (x:=x) hE.1 _ hbit
       conv=>whnf
       refine ⟨_,hm2.2 _ _,rfl,?_⟩
       conv=>whnf
       rw [show 64*0+(s+1)=64*0+s+1 from rfl,hps]
       refine ⟨s,_,_,Nat.lt_succ_self _,wk_of (by (repeat' apply And.intro)<;>first | trivial | rfl | exact congrArg (fun x=>some (TV.one x)) hq) (by (repeat' apply And.intro)<;>first | trivial | rfl) (Nat.le_refl _) (Nat.le_refl _),⟨s,t0,t1,t2,t3,t4,rfl,by omega,rfl,rfl⟩⟩
      ·rename_i hbt
       have hbit:val e0 e1 e2 e3/2^(64*0+s)%2=0:=by
        have:=of_decide_eq_false hbt
        rw [hbv]; omega
       have hps:=pw_skip (M:=D.M) (x:=x) hE.1 _ hbit
       conv=>whnf
       rw [show 64*0+(s+1)=64*0+s+1 from rfl,hps]
       refine ⟨s,_,_,Nat.lt_succ_self _,wk_of (by (repeat' apply And.intro)<;>first | trivial | rfl | exact congrArg (fun x=>some (TV.one x)) hq) (by (repeat' apply And.intro)<;>first | trivial | rfl) (Nat.le_refl _) (Nat.le_refl _),⟨s,t0,t1,t2,t3,t4,rfl,by omega,rfl,rfl⟩⟩
     ·have hbv:val e0 e1 e2 e3/2^(64*1+s)%2=e1/2^s%2:=by
       rw [show 64*1+s=64+s by omega]
       exact hbits.2.1
      refine ⟨_,hm.2 _ _,rfl,?_⟩
      conv=>whnf
      rw [and_bit h1 (by omega)]
      split
      ·rename_i hbt
       have hbit:val e0 e1 e2 e3/2^(64*1+s)%2=1:=by rw [hbv]; exact of_decide_eq_true hbt
       have hps:=pw_step (M:=D.M) (x:=x) hE.1 _ hbit
       conv=>whnf
       refine ⟨_,hm2.2 _ _,rfl,?_⟩
       conv=>whnf
       rw [show 64*1+(s+1)=64*1+s+1 from rfl,hps]
       refine ⟨s,_,_,Nat.lt_succ_self _,wk_of (by (repeat' apply And.intro)<;>first | trivial | rfl | exact congrArg (fun x=>some (TV.one x)) hq) (by (repeat' apply And.intro)<;>first | trivial | rfl) (Nat.le_refl _) (Nat.le_refl _),⟨s,t0,t1,t2,t3,t4,rfl,by omega,rfl,rfl⟩⟩
      ·rename_i hbt
       have hbit:val e0 e1 e2 e3/2^(64*1+s)%2=0:=by
        have:=of_decide_eq_false hbt
        rw [hbv]; omega
       have hps:=pw_skip (M:=D.M) (x:=x) hE.1 _ hbit
       conv=>whnf
       rw [show 64*1+(s+1)=64*1+s+1 from rfl,hps]
       refine ⟨s,_,_,Nat.lt_succ_self _,wk_of (by (repeat' apply And.intro)<;>first | trivial | rfl | exact congrArg (fun x=>some (TV.one x)) hq) (by (repeat' apply And.intro)<;>first | trivial | rfl) (Nat.le_refl _) (Nat.le_refl _),⟨s,t0,t1,t2,t3,t4,rfl,by omega,rfl,rfl⟩⟩
     ·have hbv:val e0 e1 e2 e3/2^(64*2+s)%2=e2/2^s%2:=by
       rw [show 64*2+s=128+s by omega]
       exact hbits.2.2.1
      refine ⟨_,hm.2 _ _,rfl,?_⟩
      conv=>whnf
      rw [and_bit h2 (by omega)]
      split
      ·rename_i hbt
       have hbit:val e0 e1 e2 e3/2^(64*2+s)%2=1:=by rw [hbv]; exact of_decide_eq_true hbt
       have hps:=pw_step (M:=D.M) (x:=x) hE.1 _ hbit
       conv=>whnf
       refine ⟨_,hm2.2 _ _,rfl,?_⟩
       conv=>whnf
       rw [show 64*2+(s+1)=64*2+s+1 from rfl,hps]
       refine ⟨s,_,_,Nat.lt_succ_self _,wk_of (by (repeat' apply And.intro)<;>first | trivial | rfl | exact congrArg (fun x=>some (TV.one x)) hq) (by (repeat' apply And.intro)<;>first | trivial | rfl) (Nat.le_refl _) (Nat.le_refl _),⟨s,t0,t1,t2,t3,t4,rfl,by omega,rfl,rfl⟩⟩
      ·rename_i hbt
       have hbit:val e0 e1 e2 e3/2^(64*2+s)%2=0:=by
        have:=of_decide_eq_false hbt
        rw [hbv]; omega
       have hps:=pw_skip (M:=D.M) (x:=x) hE.1 _ hbit
       conv=>whnf
       rw [show 64*2+(s+1)=64*2+s+1 from rfl,hps]
       refine ⟨s,_,_,Nat.lt_succ_self _,wk_of (by (repeat' apply And.intro)<;>first | trivial | rfl | exact congrArg (fun x=>some (TV.one x)) hq) (by (repeat' apply And.intro)<;>first | trivial | rfl) (Nat.le_refl _) (Nat.le_refl _),⟨s,t0,t1,t2,t3,t4,rfl,by omega,rfl,rfl⟩⟩
     ·have hbv:val e0 e1 e2 e3/2^(64*3+s)%2=e3/2^s%2:=by
       rw [show 64*3+s=192+s by omega]
       exact hbits.2.2.2
      refine ⟨_,hm.2 _ _,rfl,?_⟩
      conv=>whnf
      rw [and_bit h3 (by omega)]
      split
      ·rename_i hbt
       have hbit:val e0 e1 e2 e3/2^(64*3+s)%2=1:=by rw [hbv]; exact of_decide_eq_true hbt
       have hps:=pw_step (M:=D.M) (x:=x) hE.1 _ hbit
       conv=>whnf
       refine ⟨_,hm2.2 _ _,rfl,?_⟩
       conv=>whnf
       rw [show 64*3+(s+1)=64*3+s+1 from rfl,hps]
       refine ⟨s,_,_,Nat.lt_succ_self _,wk_of (by (repeat' apply And.intro)<;>first | trivial | rfl | exact congrArg (fun x=>some (TV.one x)) hq) (by (repeat' apply And.intro)<;>first | trivial | rfl) (Nat.le_refl _) (Nat.le_refl _),⟨s,t0,t1,t2,t3,t4,rfl,by omega,rfl,rfl⟩⟩
      ·rename_i hbt
       have hbit:val e0 e1 e2 e3/2^(64*3+s)%2=0:=by
        have:=of_decide_eq_false hbt
        rw [hbv]; omega
       have hps:=pw_skip (M:=D.M) (x:=x) hE.1 _ hbit
       conv=>whnf
       rw [show 64*3+(s+1)=64*3+s+1 from rfl,hps]
       refine ⟨s,_,_,Nat.lt_succ_self _,wk_of (by (repeat' apply And.intro)<;>first | trivial | rfl | exact congrArg (fun x=>some (TV.one x)) hq) (by (repeat' apply And.intro)<;>first | trivial | rfl) (Nat.le_refl _) (Nat.le_refl _),⟨s,t0,t1,t2,t3,t4,rfl,by omega,rfl,rfl⟩⟩
   ·refine ⟨64,_,_,wk_of (by (repeat' apply And.intro)<;>first | trivial | rfl) (by (repeat' apply And.intro)<;>first | trivial | rfl) (Nat.le_refl _) (Nat.le_refl _),⟨64,t0,t1,t2,t3,t4,rfl,by omega,rfl,rfl⟩⟩
 ·have h256:pw D.M x (val e0 e1 e2 e3) (64*4)=1:=by
   unfold pw
   have p256:(2:Int)^(64*4)=115792089237316195423570985008687907853269984665640564039457584007913129639936:=by decide
   have:val e0 e1 e2 e3/2^(64*4)=0:=Int.ediv_eq_zero_of_lt hE.1 (by rw [p256]; exact hE.2)
   rw [this]
   show x^0%D.M=1
   rw [Int.pow_zero]
   exact Int.emod_eq_of_lt (by omega) (by have:=hD.big; omega)
  refine ⟨4,_,_,wk_of (by (repeat' apply And.intro)<;>first | trivial | rfl) (by (repeat' apply And.intro)<;>first | trivial | rfl) (Nat.le_refl _) (Nat.le_refl _),⟨4,_,_,_,_,_,rfl,by omega,rfl,by rw [h256]; rfl⟩⟩
end Go.Ev

namespace Go.Ev

theorem refInv_fn {D:MD} (hD:D.Ok) {x:Int} (hx:InW x):Fn PG f_ref03_Inv [D.tv,W x] (W (x^(D.M-2).toNat%D.M)):=by
 refine fn_go h_ref03_Inv rfl (by kernel_rfl) (fun _=>by kernel_rfl) rfl rfl fun W0=>?_
 have hb:=hD.big
 have hM:=hD.inW
 have hmin:=refMinus_fn (y:=2) hM ⟨by omega,by omega⟩
 have e1:(D.M-2)%115792089237316195423570985008687907853269984665640564039457584007913129639936=D.M-2:=by
  have:=hM.2; omega
 rw [e1] at hmin
 simp only [W,hD.words] at hmin
 have hp:=refPower_fn hD hx (E:=D.M-2) ⟨by omega,by have:=hM.2; omega⟩
 refine swp_cut fun K hK _ _=>?_
 conv=>whnf
 refine hK _ _ (swp_cut fun K hK _ _=>?_)
 conv=>whnf
 refine ⟨_,(refSmall_fn (n:=2) ⟨by omega,by omega⟩).2 _ _,rfl,?_⟩
 conv=>whnf
 refine ⟨_,hmin.2 _ _,rfl,?_⟩
 conv=>whnf
 refine ⟨_,hp.2 _ _,rfl,?_⟩
 conv=>whnf
 refine hK _ _ ?_
 conv=>whnf
 rfl

theorem refSqrt_fn {x:Int} (hx:InW x):Fn PG f_ref03_Sqrt [W x] (.tup [.agg (words (sqrtP x).1),.one (.bool (sqrtP x).2)]):=by
 refine fn_go h_ref03_Sqrt rfl (by kernel_rfl) (fun _=>by kernel_rfl) rfl rfl fun W0=>?_
 generalize hs:sqrtP x=sv
 unfold sqrtP at hs
 have hpl:=refPlus_fn (x:=pp) (y:=1) (by unfold pp; exact ⟨by omega,by omega⟩) ⟨by omega,by omega⟩
 have hpw:=refPower_fn mdP_ok hx (E:=(pp+1)/4) (by unfold pp; exact ⟨by omega,by omega⟩)
 rw [mdP_M] at hpw
 have hr:x^((pp+1)/4).toNat%pp=rootP x:=rfl
 rw [hr] at hpw
 have hrw:InW (rootP x):=by rw [← hr]; unfold pp; exact ⟨by omega,by omega⟩
 have hm:=refMul_fn mdP_ok hrw hrw
 rw [mdP_M] at hm
 have hn:=refNorm_fn mdP_ok hx
 rw [mdP_M] at hn
 have hg:=refNeg_fn mdP_ok hrw
 rw [mdP_M] at hg
 refine swp_cut fun K hK r1 _=>?_
 conv=>whnf
 refine hK _ _ (swp_cut fun K hK r2 _=>?_)
 conv=>whnf
 refine ⟨_,refP_fn.2 _ _,rfl,?_⟩
 conv=>whnf
 refine hK _ _ (swp_cut fun K hK r3 _=>?_)
 conv=>whnf
 refine ⟨_,(refSmall_fn (n:=1) ⟨by omega,by omega⟩).2 _ _,rfl,?_⟩
 conv=>whnf
 refine ⟨_,cast_args (B:=[W pp,W 1]) (by kernel_rfl) (hpl.2 _ _),rfl,?_⟩
 conv=>whnf
 refine hK _ _ (swp_cut fun K hK r4 _=>?_)
 conv=>whnf
 refine hK _ _ (swp_cut fun K hK r5 _=>?_)
 conv=>whnf
 refine .inl ⟨5,?_⟩
 conv=>whnf
 refine hK _ _ (swp_cut fun K hK r6 _=>?_)
 conv=>whnf
 refine ⟨_,cast_args (B:=[mdP.tv,W x,W ((pp+1)/4)]) (by kernel_rfl) (hpw.2 _ _),rfl,?_⟩
 conv=>whnf
 refine hK _ _ (swp_cut fun K hK r7 _=>?_)
 conv=>whnf
 refine ⟨_,hm.2 _ _,rfl,?_⟩
 conv=>whnf
 refine ⟨_,hn.2 _ _,rfl,?_⟩
 conv=>whnf
 have hmod:∀ z:Int,InW (z%pp):=fun z=>by unfold pp; exact ⟨by omega,by omega⟩
 rw [weq (hmod _) (hmod _)]
 split
 ·rename_i h
  have h:¬ (rootP x*rootP x%pp=x%pp):=by simpa using h
  rw [if_neg h] at hs
  subst hs
  conv=>whnf
  refine r7 _ _ ?_
  conv=>whnf
  rfl
 ·rename_i h
  have h:rootP x*rootP x%pp=x%pp:=by simpa using h
  rw [if_pos h] at hs
  conv=>whnf
  refine hK _ _ (swp_cut fun K hK q1 _=>?_)
  have ht:(rootP x%18446744073709551616).tmod 2=rootP x%2:=by
   rw [Int.tmod_eq_emod_of_nonneg (by omega)]; omega
  conv=>whnf
  rw [ht]
  split
  ·rename_i h2
   have h2:rootP x%2=1:=by simpa using h2
   rw [if_pos h2] at hs
   subst hs
   conv=>whnf
   refine ⟨_,hg.2 _ _,rfl,?_⟩
   conv=>whnf
   refine q1 _ _ ?_
   conv=>whnf
   rfl
  ·rename_i h2
   have h2:¬ rootP x%2=1:=by simpa using h2
   rw [if_neg h2] at hs
   subst hs
   conv=>whnf
   refine hK _ _ ?_
   conv=>whnf
   rfl

end Go.Ev

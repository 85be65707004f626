import Derived.Test.YthmdbgdagnhheaaGreatDoorEvA
import Derived.Test.YthmdbgdagnhheaaGreatDoorRfA
namespace Go.Ev

theorem CALL.frame {P:Program} {W0:World} {f:FuncId} {args1 args2:List TV} {m:Mem} {b:Nat} {blk:Blk} {R:Blk→Prop} (hn:nth m b=some blk) (hc:closedL 0 blk.cells=true)
  (ha:∀ c:Con,args1.map (TV.conc ⟨fun _=>c.ι b,fun _=>c.κ b⟩)=args2.map (TV.conc c)) (hcl:closedTs 1 args1=true)
  (h:CALL P W0 f args1 [some blk] fun v m'=>v=.tup []∧∃ k,m'=[some k]∧closedL 0 k.cells=true∧R k) :
  CALL P W0 f args2 m fun v m'=>v=.tup []∧∃ k,m'=setB m b (some k)∧R k:=by
 refine ⟨h.1,fun c w hr _=>?_⟩
 have any:∀ c' c'':Con,∀ l:List Sc,closedL 0 l=true→l.map (Sc.conc c')=l.map (Sc.conc c''):=fun c' c'' l hl=>by
  apply List.map_congr_left
  intro s hs
  exact Sc.conc_agree (n:=0) (fun b hb=>absurd hb (Nat.not_lt_zero b)) (closedL_iff.1 hl s hs)
 have one:∀ (k:Blk) (b':Nat) (x:Blk),nth [some k] b'=some x→b'=0∧x=k:=fun k b' x hx=>by
  have hlt:=nth_lt hx
  have:b'=0:=by simpa using hlt
  subst this
  simp only [nth,Option.some.injEq] at hx
  exact ⟨rfl,hx.symm⟩
 have hr1:RelM W0 ⟨fun _=>c.ι b,fun _=>c.κ b⟩ [some blk] w:=by
  refine ⟨fun b' x hx=>?_,fun b' x hx=>?_,fun a d x y hx hy _=>?_,fun _ _=>hr.ge b (nth_lt hn),fun _ _=>hr.lt b (nth_lt hn),hr.ext,hr.size,hr.os,hr.tape,hr.output⟩
  ·obtain ⟨rfl,rfl⟩:=one _ _ _ hx
   obtain ⟨junk,k1,k2,k3⟩:=hr.blk b x hn
   exact ⟨junk,by rw [any _ c x.cells hc]; exact k1,k2,k3⟩
  ·obtain ⟨rfl,rfl⟩:=one _ _ _ hx
   exact closedL_mono (Nat.zero_le _) hc
  ·rw [(one _ _ _ hx).1,(one _ _ _ hy).1]
 have hcall:=h.2 _ w hr1 (closedTs_iff.1 hcl)
 rw [ha c] at hcall
 refine hcall.mono fun e w' hh=>?_
 obtain ⟨v,m',c',h1,h2,h3,_,rfl,k,rfl,hk,hR⟩:=hh
 have hi:c'.ι 0=c.ι b:=(h3.agree 0 (by simp)).1
 have hκ:c'.κ 0=c.κ b:=(h3.agree 0 (by simp)).2
 have dom:∀ b' x,nth (setB m b (some k)) b'=some x→∃ y,nth m b'=some y:=fun b' x hx=>by
  by_cases hb:b=b'
  ·subst hb; exact ⟨blk,hn⟩
  ·rw [nth_setB_ne hb] at hx; exact ⟨x,hx⟩
 refine ⟨.tup [],setB m b (some k),c,h1,?_,?_,rfl,rfl,k,rfl,hR⟩
 ·refine ⟨fun b' x hx=>?_,fun b' x hx=>?_,fun a d x y hx hy he=>?_,fun b' hb=>hr.ge b' (by simpa using hb),fun b' hb=>Nat.lt_of_lt_of_le (hr.lt b' (by simpa using hb)) h3.size,
   h2.ext,h2.size,h2.os,h2.tape,h2.output⟩
  ·by_cases hb:b=b'
   ·subst hb
    rw [nth_setB_same hn,Option.some.injEq] at hx
    subst hx
    obtain ⟨junk,k1,k2,k3⟩:=h2.blk 0 k rfl
    rw [hi,any c' c _ hk] at k1
    rw [hκ] at k3
    exact ⟨junk,k1,k2,k3⟩
   ·rw [nth_setB_ne hb] at hx
    obtain ⟨junk,k1,k2⟩:=hr.blk b' x hx
    refine ⟨junk,?_,k2⟩
    rw [h3.keep _ (hr.lt b' (nth_lt hx)) (fun b'' y hy=>?_)]
    ·exact k1
    ·intro he
     exact hb (hr.inj b b' blk x hn hx he)
  ·rw [length_setB]
   by_cases hb:b=b'
   ·subst hb
    rw [nth_setB_same hn,Option.some.injEq] at hx
    subst hx
    exact closedL_mono (Nat.zero_le _) hk
   ·rw [nth_setB_ne hb] at hx
    exact hr.cl b' x hx
  ·obtain ⟨x',hx'⟩:=dom a x hx
   obtain ⟨y',hy'⟩:=dom d y hy
   exact hr.inj a d x' y' hx' hy' he
 ·refine ⟨by simp,fun _ _=>⟨rfl,rfl⟩,h3.size,fun r hr' hno=>h3.keep r hr' (fun b' x hx=>?_),fun b' x hx hge=>?_,fun b' x hx _=>dom b' x hx⟩
  ·exact hno b blk hn
  ·have:=nth_lt hx
   rw [length_setB] at this
   omega

end Go.Ev

namespace Go.Ev

theorem scOrder_fn:Fn PG f_scalar_order [] (W nn):=by
 refine fn_go h_scalar_order rfl (by kernel_rfl) (fun _=>by kernel_rfl) rfl rfl fun W0=>?_
 conv=>whnf
 kernel_rfl

theorem scMinus_fn {x y:Int} (hx:InW x) (hy:InW y):Fn PG f_scalar_minus [W x,W y] (.tup [.agg (words ((x-y)%115792089237316195423570985008687907853269984665640564039457584007913129639936)),.one (u (-((x-y)/115792089237316195423570985008687907853269984665640564039457584007913129639936)))]):=by
 obtain ⟨a0,a1,a2,a3,h0,h1,h2,h3,rfl⟩:=split4 hx
 obtain ⟨b0,b1,b2,b3,g0,g1,g2,g3,rfl⟩:=split4 hy
 simp only [W,words_val h0 h1 h2 h3,words_val g0 g1 g2 g3]
 refine fn_go h_scalar_minus rfl (by kernel_rfl) (fun _=>by kernel_rfl) rfl rfl fun W0=>?_
 conv=>whnf
 refine .inl ⟨5,?_⟩
 conv=>whnf
 refine ⟨by omega,?_⟩
 intro s0 c0 e0 l0 u0 p0 q0
 conv=>whnf
 refine ⟨by omega,?_⟩
 intro s1 c1 e1 l1 u1 p1 q1
 conv=>whnf
 refine ⟨by omega,?_⟩
 intro s2 c2 e2 l2 u2 p2 q2
 conv=>whnf
 refine ⟨by omega,?_⟩
 intro s3 c3 e3 l3 u3 p3 q3
 conv=>whnf
 have hs:(val a0 a1 a2 a3-val b0 b1 b2 b3)%115792089237316195423570985008687907853269984665640564039457584007913129639936=val s0 s1 s2 s3:=by unfold val; omega
 have hc : -((val a0 a1 a2 a3-val b0 b1 b2 b3)/115792089237316195423570985008687907853269984665640564039457584007913129639936)=c3:=by unfold val; omega
 rw [hs,hc,words_val ⟨l0,u0⟩ ⟨l1,u1⟩ ⟨l2,u2⟩ ⟨l3,u3⟩]
 rfl

theorem scNorm_fn {x:Int} (hx:InW x):Fn PG f_scalar_Norm [W x] (W (x%nn)):=by
 refine fn_go h_scalar_Norm rfl (by kernel_rfl) (fun _=>by kernel_rfl) rfl rfl fun W0=>?_
 conv=>whnf
 refine ⟨_,scOrder_fn.2 _ _,rfl,?_⟩
 conv=>whnf
 refine ⟨_,(scMinus_fn (x:=x) (y:=nn) hx (by decide)).2 _ _,rfl,?_⟩
 conv=>whnf
 split
 ·rename_i h
  have h:=of_decide_eq_true h
  conv=>whnf
  have:x%nn=x:=by unfold nn at *; omega
  rw [this]
  rfl
 ·rename_i h
  have h:=of_decide_eq_false h
  conv=>whnf
  have:x%nn=(x-nn)%115792089237316195423570985008687907853269984665640564039457584007913129639936:=by unfold nn at *; omega
  rw [this]
  rfl

end Go.Ev

namespace Go.Ev

theorem scLess_fn:Fn PG f_scalar_less [] (.agg [u mdN.l0,u mdN.l1,u mdN.l2]):=by
 refine fn_go h_scalar_less rfl (by kernel_rfl) (fun _=>by kernel_rfl) rfl rfl fun W0=>?_
 conv=>whnf
 kernel_rfl

end Go.Ev

namespace Go.Ev

def GaI (T:Int) (t:Nat) (k:Nat) (e:Env) (m:Mem):Prop:=
 ∃ (i:Nat) (c:Int) (w0 w1 w2 w3 w4 w5 w6 w7:Int),2≤i∧i≤8∧k=8-i∧In8 w0 w1 w2 w3 w4 w5 w6 w7∧(c=0∨c=1)∧val8 w0 w1 w2 w3 w4 w5 w6 w7+q64 i*c=T ∧
  e=[(11,.one (.int .i64 i)),(10,.one (u c)),(0,.one (.ptr (some (.loc 0 0))))]∧m=[some ⟨[u w0,u w1,u w2,u w3,u w4,u w5,u w6,u w7],t,0,false⟩]

def GaR (T:Int) (t:Nat) (k:Blk):Prop:=∃ w0 w1 w2 w3 w4 w5 w6 w7:Int,In8 w0 w1 w2 w3 w4 w5 w6 w7∧val8 w0 w1 w2 w3 w4 w5 w6 w7=T∧k=⟨[u w0,u w1,u w2,u w3,u w4,u w5,u w6,u w7],t,0,false⟩

theorem ga_round {T:Int} {t:Nat} (hT:T<13407807929942597099574024998205846127479365820592393377723561443721764030073546976801874298166903427690031858186486050853753882811946569946433649006084096) (W0:World) (Q:Exit→Env→Mem→Prop) (hQ:∀ (e:Env) (w0 w1 w2 w3 w4 w5 w6 w7:Int),In8 w0 w1 w2 w3 w4 w5 w6 w7→val8 w0 w1 w2 w3 w4 w5 w6 w7=T→Q (.exit 0) e [some ⟨[u w0,u w1,u w2,u w3,u w4,u w5,u w6,u w7],t,0,false⟩]) (k:Nat) (e':Env) (m':Mem) (hI:GaI T t k e' m') :
  swp (GG W0) (lp F_scalar_gather 0) (fun x e1 m1=>match x with
   | .normal=>∃ j e2 m2,j<k∧Wk 1 e1 m1 e2 m2∧GaI T t j e2 m2
   | x=>Q x e1 m1) e' m':=by
 obtain ⟨i,c,w0,w1,w2,w3,w4,w5,w6,w7,hi2,hi8,rfl,hs,hc,hv,rfl,rfl⟩:=hI
 obtain rfl | rfl | rfl | rfl | rfl | rfl | rfl:i=2∨i=3∨i=4∨i=5∨i=6∨i=7∨i=8:=by omega
 ·obtain rfl | rfl:c=1∨c=0:=by omega
  ·conv=>whnf
   obtain ⟨hs0,hs1,hs2,hs3,hs4,hs5,hs6,hs7⟩:=hs
   refine ⟨⟨hs2.1,Int.le_refl _,Int.zero_le_ofNat 1,Int.le_refl _⟩,?_⟩
   intro s t' e1 a1 a2 a3
   conv=>whnf
   refine ⟨5,_,_,by decide,wk_of (by (repeat' apply And.intro)<;>first | trivial | rfl) (by (repeat' apply And.intro)<;>first | trivial | rfl) (Nat.le_refl _) (Nat.le_refl _),⟨3,t',w0,w1,s,w3,w4,w5,w6,w7,by decide,by decide,rfl,⟨hs0,hs1,⟨a1,a2⟩,hs3,hs4,hs5,hs6,hs7⟩,by omega,?_,rfl,rfl⟩⟩
   simp only [q64] at hv ⊢
   unfold val8 val at *
   omega
  ·conv=>whnf
   exact hQ _ _ _ _ _ _ _ _ _ hs (by rw [← hv,Int.mul_zero,Int.add_zero])
 ·obtain rfl | rfl:c=1∨c=0:=by omega
  ·conv=>whnf
   obtain ⟨hs0,hs1,hs2,hs3,hs4,hs5,hs6,hs7⟩:=hs
   refine ⟨⟨hs3.1,Int.le_refl _,Int.zero_le_ofNat 1,Int.le_refl _⟩,?_⟩
   intro s t' e1 a1 a2 a3
   conv=>whnf
   refine ⟨4,_,_,by decide,wk_of (by (repeat' apply And.intro)<;>first | trivial | rfl) (by (repeat' apply And.intro)<;>first | trivial | rfl) (Nat.le_refl _) (Nat.le_refl _),⟨4,t',w0,w1,w2,s,w4,w5,w6,w7,by decide,by decide,rfl,⟨hs0,hs1,hs2,⟨a1,a2⟩,hs4,hs5,hs6,hs7⟩,by omega,?_,rfl,rfl⟩⟩
   simp only [q64] at hv ⊢
   unfold val8 val at *
   omega
  ·conv=>whnf
   exact hQ _ _ _ _ _ _ _ _ _ hs (by rw [← hv,Int.mul_zero,Int.add_zero])
 ·obtain rfl | rfl:c=1∨c=0:=by omega
  ·conv=>whnf
   obtain ⟨hs0,hs1,hs2,hs3,hs4,hs5,hs6,hs7⟩:=hs
   refine ⟨⟨hs4.1,Int.le_refl _,Int.zero_le_ofNat 1,Int.le_refl _⟩,?_⟩
   intro s t' e1 a1 a2 a3
   conv=>whnf
   refine ⟨3,_,_,by decide,wk_of (by (repeat' apply And.intro)<;>first | trivial | rfl) (by (repeat' apply And.intro)<;>first | trivial | rfl) (Nat.le_refl _) (Nat.le_refl _),⟨5,t',w0,w1,w2,w3,s,w5,w6,w7,by decide,by decide,rfl,⟨hs0,hs1,hs2,hs3,⟨a1,a2⟩,hs5,hs6,hs7⟩,by omega,?_,rfl,rfl⟩⟩
   simp only [q64] at hv ⊢
   unfold val8 val at *
   omega
  ·conv=>whnf
   exact hQ _ _ _ _ _ _ _ _ _ hs (by rw [← hv,Int.mul_zero,Int.add_zero])
 ·obtain rfl | rfl:c=1∨c=0:=by omega
  ·conv=>whnf
   obtain ⟨hs0,hs1,hs2,hs3,hs4,hs5,hs6,hs7⟩:=hs
   refine ⟨⟨hs5.1,Int.le_refl _,Int.zero_le_ofNat 1,Int.le_refl _⟩,?_⟩
   intro s t' e1 a1 a2 a3
   conv=>whnf
   refine ⟨2,_,_,by decide,wk_of (by (repeat' apply And.intro)<;>first | trivial | rfl) (by (repeat' apply And.intro)<;>first | trivial | rfl) (Nat.le_refl _) (Nat.le_refl _),⟨6,t',w0,w1,w2,w3,w4,s,w6,w7,by decide,by decide,rfl,⟨hs0,hs1,hs2,hs3,hs4,⟨a1,a2⟩,hs6,hs7⟩,by omega,?_,rfl,rfl⟩⟩
   simp only [q64] at hv ⊢
   unfold val8 val at *
   omega
  ·conv=>whnf
   exact hQ _ _ _ _ _ _ _ _ _ hs (by rw [← hv,Int.mul_zero,Int.add_zero])
 ·obtain rfl | rfl:c=1∨c=0:=by omega
  ·conv=>whnf
   obtain ⟨hs0,hs1,hs2,hs3,hs4,hs5,hs6,hs7⟩:=hs
   refine ⟨⟨hs6.1,Int.le_refl _,Int.zero_le_ofNat 1,Int.le_refl _⟩,?_⟩
   intro s t' e1 a1 a2 a3
   conv=>whnf
   refine ⟨1,_,_,by decide,wk_of (by (repeat' apply And.intro)<;>first | trivial | rfl) (by (repeat' apply And.intro)<;>first | trivial | rfl) (Nat.le_refl _) (Nat.le_refl _),⟨7,t',w0,w1,w2,w3,w4,w5,s,w7,by decide,by decide,rfl,⟨hs0,hs1,hs2,hs3,hs4,hs5,⟨a1,a2⟩,hs7⟩,by omega,?_,rfl,rfl⟩⟩
   simp only [q64] at hv ⊢
   unfold val8 val at *
   omega
  ·conv=>whnf
   exact hQ _ _ _ _ _ _ _ _ _ hs (by rw [← hv,Int.mul_zero,Int.add_zero])
 ·obtain rfl | rfl:c=1∨c=0:=by omega
  ·conv=>whnf
   obtain ⟨hs0,hs1,hs2,hs3,hs4,hs5,hs6,hs7⟩:=hs
   refine ⟨⟨hs7.1,Int.le_refl _,Int.zero_le_ofNat 1,Int.le_refl _⟩,?_⟩
   intro s t' e1 a1 a2 a3
   conv=>whnf
   refine ⟨0,_,_,by decide,wk_of (by (repeat' apply And.intro)<;>first | trivial | rfl) (by (repeat' apply And.intro)<;>first | trivial | rfl) (Nat.le_refl _) (Nat.le_refl _),⟨8,t',w0,w1,w2,w3,w4,w5,w6,s,by decide,by decide,rfl,⟨hs0,hs1,hs2,hs3,hs4,hs5,hs6,⟨a1,a2⟩⟩,by omega,?_,rfl,rfl⟩⟩
   simp only [q64] at hv ⊢
   unfold val8 val at *
   omega
  ·conv=>whnf
   exact hQ _ _ _ _ _ _ _ _ _ hs (by rw [← hv,Int.mul_zero,Int.add_zero])
 ·obtain rfl:c=0:=by
   obtain ⟨hs0,hs1,hs2,hs3,hs4,hs5,hs6,hs7⟩:=hs
   simp only [q64] at hv
   unfold val8 val at hv
   omega
  conv=>whnf
  exact hQ _ _ _ _ _ _ _ _ _ hs (by rw [← hv,Int.mul_zero,Int.add_zero])

theorem gather0 {w0 w1 w2 w3 w4 w5 w6 w7 a b:Int} (hw:In8 w0 w1 w2 w3 w4 w5 w6 w7) (ha:InU a) (hb:InU b) (t:Nat) (hT:val8 w0 w1 w2 w3 w4 w5 w6 w7+q64 0*(a*b)<13407807929942597099574024998205846127479365820592393377723561443721764030073546976801874298166903427690031858186486050853753882811946569946433649006084096) (W0:World) :
  CALL PG W0 f_scalar_gather [.one (.ptr (some (.loc 0 0))),.one (.int .i64 0),.one (u a),.one (u b)] [some ⟨[u w0,u w1,u w2,u w3,u w4,u w5,u w6,u w7],t,0,false⟩] fun v m'=>v=.tup []∧∃ k,m'=[some k]∧closedL 0 k.cells=true∧GaR (val8 w0 w1 w2 w3 w4 w5 w6 w7+q64 0*(a*b)) t k:=by
 refine call_of_swp (gOk W0) (cd:=bodyOf F_scalar_gather) h_scalar_gather rfl (by kernel_rfl) (by kernel_rfl) ?_
 obtain ⟨hw0,hw1,hw2,hw3,hw4,hw5,hw6,hw7⟩:=hw
 obtain ⟨T,hTe⟩:∃ T,T=val8 w0 w1 w2 w3 w4 w5 w6 w7+q64 0*(a*b):=⟨_,rfl⟩
 rw [← hTe] at hT ⊢
 conv=>whnf
 refine ⟨⟨ha.1,ha.2,hb.1,hb.2⟩,?_⟩
 intro hi lo e0 a1 a2 a3 a4 a5
 conv=>whnf
 refine ⟨⟨hw0.1,a3,Int.le_refl _,Int.zero_le_ofNat 1⟩,?_⟩
 intro x c e1 a6 a7 a8
 conv=>whnf
 have hc1:c≤1:=by omega
 refine ⟨⟨hw1.1,a1,a8,hc1⟩,?_⟩
 intro y d e2 b1 b2 b3
 conv=>whnf
 have hd1:d≤1:=by omega
 have hE:val8 x y w2 w3 w4 w5 w6 w7+q64 2*d=T:=by
  rw [hTe,← e0]
  clear hTe hT
  simp only [q64]
  unfold val8 val
  omega
 have hS:In8 x y w2 w3 w4 w5 w6 w7:=⟨⟨a6,a7⟩,⟨b1,b2⟩,hw2,hw3,hw4,hw5,hw6,hw7⟩
 clear e0 e1 e2
 refine .inr (loop_inv (gOk W0) (GaI T t) (fun k e' m' hI=>ga_round hT W0 _ (fun e r0 r1 r2 r3 r4 r5 r6 r7 hr hv=>?_) k e' m' hI) ?_)
 ·conv=>whnf
  exact ⟨rfl,_,rfl,rfl,r0,r1,r2,r3,r4,r5,r6,r7,hr,hv,rfl⟩
 ·refine ⟨6,_,_,wk_of (by (repeat' apply And.intro)<;>first | trivial | rfl) (by (repeat' apply And.intro)<;>first | trivial | rfl) (Nat.le_refl _) (Nat.le_refl _),⟨2,d,x,y,w2,w3,w4,w5,w6,w7,by decide,by decide,by decide,hS,by omega,hE,rfl,rfl⟩⟩

theorem gather1 {w0 w1 w2 w3 w4 w5 w6 w7 a b:Int} (hw:In8 w0 w1 w2 w3 w4 w5 w6 w7) (ha:InU a) (hb:InU b) (t:Nat) (hT:val8 w0 w1 w2 w3 w4 w5 w6 w7+q64 1*(a*b)<13407807929942597099574024998205846127479365820592393377723561443721764030073546976801874298166903427690031858186486050853753882811946569946433649006084096) (W0:World) :
  CALL PG W0 f_scalar_gather [.one (.ptr (some (.loc 0 0))),.one (.int .i64 1),.one (u a),.one (u b)] [some ⟨[u w0,u w1,u w2,u w3,u w4,u w5,u w6,u w7],t,0,false⟩] fun v m'=>v=.tup []∧∃ k,m'=[some k]∧closedL 0 k.cells=true∧GaR (val8 w0 w1 w2 w3 w4 w5 w6 w7+q64 1*(a*b)) t k:=by
 refine call_of_swp (gOk W0) (cd:=bodyOf F_scalar_gather) h_scalar_gather rfl (by kernel_rfl) (by kernel_rfl) ?_
 obtain ⟨hw0,hw1,hw2,hw3,hw4,hw5,hw6,hw7⟩:=hw
 obtain ⟨T,hTe⟩:∃ T,T=val8 w0 w1 w2 w3 w4 w5 w6 w7+q64 1*(a*b):=⟨_,rfl⟩
 rw [← hTe] at hT ⊢
 conv=>whnf
 refine ⟨⟨ha.1,ha.2,hb.1,hb.2⟩,?_⟩
 intro hi lo e0 a1 a2 a3 a4 a5
 conv=>whnf
 refine ⟨⟨hw1.1,a3,Int.le_refl _,Int.zero_le_ofNat 1⟩,?_⟩
 intro x c e1 a6 a7 a8
 conv=>whnf
 have hc1:c≤1:=by omega
 refine ⟨⟨hw2.1,a1,a8,hc1⟩,?_⟩
 intro y d e2 b1 b2 b3
 conv=>whnf
 have hd1:d≤1:=by omega
 have hE:val8 w0 x y w3 w4 w5 w6 w7+q64 3*d=T:=by
  rw [hTe,← e0]
  clear hTe hT
  simp only [q64]
  unfold val8 val
  omega
 have hS:In8 w0 x y w3 w4 w5 w6 w7:=⟨hw0,⟨a6,a7⟩,⟨b1,b2⟩,hw3,hw4,hw5,hw6,hw7⟩
 clear e0 e1 e2
 refine .inr (loop_inv (gOk W0) (GaI T t) (fun k e' m' hI=>ga_round hT W0 _ (fun e r0 r1 r2 r3 r4 r5 r6 r7 hr hv=>?_) k e' m' hI) ?_)
 ·conv=>whnf
  exact ⟨rfl,_,rfl,rfl,r0,r1,r2,r3,r4,r5,r6,r7,hr,hv,rfl⟩
 ·refine ⟨5,_,_,wk_of (by (repeat' apply And.intro)<;>first | trivial | rfl) (by (repeat' apply And.intro)<;>first | trivial | rfl) (Nat.le_refl _) (Nat.le_refl _),⟨3,d,w0,x,y,w3,w4,w5,w6,w7,by decide,by decide,by decide,hS,by omega,hE,rfl,rfl⟩⟩

theorem gather2 {w0 w1 w2 w3 w4 w5 w6 w7 a b:Int} (hw:In8 w0 w1 w2 w3 w4 w5 w6 w7) (ha:InU a) (hb:InU b) (t:Nat) (hT:val8 w0 w1 w2 w3 w4 w5 w6 w7+q64 2*(a*b)<13407807929942597099574024998205846127479365820592393377723561443721764030073546976801874298166903427690031858186486050853753882811946569946433649006084096) (W0:World) :
  CALL PG W0 f_scalar_gather [.one (.ptr (some (.loc 0 0))),.one (.int .i64 2),.one (u a),.one (u b)] [some ⟨[u w0,u w1,u w2,u w3,u w4,u w5,u w6,u w7],t,0,false⟩] fun v m'=>v=.tup []∧∃ k,m'=[some k]∧closedL 0 k.cells=true∧GaR (val8 w0 w1 w2 w3 w4 w5 w6 w7+q64 2*(a*b)) t k:=by
 refine call_of_swp (gOk W0) (cd:=bodyOf F_scalar_gather) h_scalar_gather rfl (by kernel_rfl) (by kernel_rfl) ?_
 obtain ⟨hw0,hw1,hw2,hw3,hw4,hw5,hw6,hw7⟩:=hw
 obtain ⟨T,hTe⟩:∃ T,T=val8 w0 w1 w2 w3 w4 w5 w6 w7+q64 2*(a*b):=⟨_,rfl⟩
 rw [← hTe] at hT ⊢
 conv=>whnf
 refine ⟨⟨ha.1,ha.2,hb.1,hb.2⟩,?_⟩
 intro hi lo e0 a1 a2 a3 a4 a5
 conv=>whnf
 refine ⟨⟨hw2.1,a3,Int.le_refl _,Int.zero_le_ofNat 1⟩,?_⟩
 intro x c e1 a6 a7 a8
 conv=>whnf
 have hc1:c≤1:=by omega
 refine ⟨⟨hw3.1,a1,a8,hc1⟩,?_⟩
 intro y d e2 b1 b2 b3
 conv=>whnf
 have hd1:d≤1:=by omega
 have hE:val8 w0 w1 x y w4 w5 w6 w7+q64 4*d=T:=by
  rw [hTe,← e0]
  clear hTe hT
  simp only [q64]
  unfold val8 val
  omega
 have hS:In8 w0 w1 x y w4 w5 w6 w7:=⟨hw0,hw1,⟨a6,a7⟩,⟨b1,b2⟩,hw4,hw5,hw6,hw7⟩
 clear e0 e1 e2
 refine .inr (loop_inv (gOk W0) (GaI T t) (fun k e' m' hI=>ga_round hT W0 _ (fun e r0 r1 r2 r3 r4 r5 r6 r7 hr hv=>?_) k e' m' hI) ?_)
 ·conv=>whnf
  exact ⟨rfl,_,rfl,rfl,r0,r1,r2,r3,r4,r5,r6,r7,hr,hv,rfl⟩
 ·refine ⟨4,_,_,wk_of (by (repeat' apply And.intro)<;>first | trivial | rfl) (by (repeat' apply And.intro)<;>first | trivial | rfl) (Nat.le_refl _) (Nat.le_refl _),⟨4,d,w0,w1,x,y,w4,w5,w6,w7,by decide,by decide,by decide,hS,by omega,hE,rfl,rfl⟩⟩

theorem gather3 {w0 w1 w2 w3 w4 w5 w6 w7 a b:Int} (hw:In8 w0 w1 w2 w3 w4 w5 w6 w7) (ha:InU a) (hb:InU b) (t:Nat) (hT:val8 w0 w1 w2 w3 w4 w5 w6 w7+q64 3*(a*b)<13407807929942597099574024998205846127479365820592393377723561443721764030073546976801874298166903427690031858186486050853753882811946569946433649006084096) (W0:World) :
  CALL PG W0 f_scalar_gather [.one (.ptr (some (.loc 0 0))),.one (.int .i64 3),.one (u a),.one (u b)] [some ⟨[u w0,u w1,u w2,u w3,u w4,u w5,u w6,u w7],t,0,false⟩] fun v m'=>v=.tup []∧∃ k,m'=[some k]∧closedL 0 k.cells=true∧GaR (val8 w0 w1 w2 w3 w4 w5 w6 w7+q64 3*(a*b)) t k:=by
 refine call_of_swp (gOk W0) (cd:=bodyOf F_scalar_gather) h_scalar_gather rfl (by kernel_rfl) (by kernel_rfl) ?_
 obtain ⟨hw0,hw1,hw2,hw3,hw4,hw5,hw6,hw7⟩:=hw
 obtain ⟨T,hTe⟩:∃ T,T=val8 w0 w1 w2 w3 w4 w5 w6 w7+q64 3*(a*b):=⟨_,rfl⟩
 rw [← hTe] at hT ⊢
 conv=>whnf
 refine ⟨⟨ha.1,ha.2,hb.1,hb.2⟩,?_⟩
 intro hi lo e0 a1 a2 a3 a4 a5
 conv=>whnf
 refine ⟨⟨hw3.1,a3,Int.le_refl _,Int.zero_le_ofNat 1⟩,?_⟩
 intro x c e1 a6 a7 a8
 conv=>whnf
 have hc1:c≤1:=by omega
 refine ⟨⟨hw4.1,a1,a8,hc1⟩,?_⟩
 intro y d e2 b1 b2 b3
 conv=>whnf
 have hd1:d≤1:=by omega
 have hE:val8 w0 w1 w2 x y w5 w6 w7+q64 5*d=T:=by
  rw [hTe,← e0]
  clear hTe hT
  simp only [q64]
  unfold val8 val
  omega
 have hS:In8 w0 w1 w2 x y w5 w6 w7:=⟨hw0,hw1,hw2,⟨a6,a7⟩,⟨b1,b2⟩,hw5,hw6,hw7⟩
 clear e0 e1 e2
 refine .inr (loop_inv (gOk W0) (GaI T t) (fun k e' m' hI=>ga_round hT W0 _ (fun e r0 r1 r2 r3 r4 r5 r6 r7 hr hv=>?_) k e' m' hI) ?_)
 ·conv=>whnf
  exact ⟨rfl,_,rfl,rfl,r0,r1,r2,r3,r4,r5,r6,r7,hr,hv,rfl⟩
 ·refine ⟨3,_,_,wk_of (by (repeat' apply And.intro)<;>first | trivial | rfl) (by (repeat' apply And.intro)<;>first | trivial | rfl) (Nat.le_refl _) (Nat.le_refl _),⟨5,d,w0,w1,w2,x,y,w5,w6,w7,by decide,by decide,by decide,hS,by omega,hE,rfl,rfl⟩⟩

theorem gather4 {w0 w1 w2 w3 w4 w5 w6 w7 a b:Int} (hw:In8 w0 w1 w2 w3 w4 w5 w6 w7) (ha:InU a) (hb:InU b) (t:Nat) (hT:val8 w0 w1 w2 w3 w4 w5 w6 w7+q64 4*(a*b)<13407807929942597099574024998205846127479365820592393377723561443721764030073546976801874298166903427690031858186486050853753882811946569946433649006084096) (W0:World) :
  CALL PG W0 f_scalar_gather [.one (.ptr (some (.loc 0 0))),.one (.int .i64 4),.one (u a),.one (u b)] [some ⟨[u w0,u w1,u w2,u w3,u w4,u w5,u w6,u w7],t,0,false⟩] fun v m'=>v=.tup []∧∃ k,m'=[some k]∧closedL 0 k.cells=true∧GaR (val8 w0 w1 w2 w3 w4 w5 w6 w7+q64 4*(a*b)) t k:=by
 refine call_of_swp (gOk W0) (cd:=bodyOf F_scalar_gather) h_scalar_gather rfl (by kernel_rfl) (by kernel_rfl) ?_
 obtain ⟨hw0,hw1,hw2,hw3,hw4,hw5,hw6,hw7⟩:=hw
 obtain ⟨T,hTe⟩:∃ T,T=val8 w0 w1 w2 w3 w4 w5 w6 w7+q64 4*(a*b):=⟨_,rfl⟩
 rw [← hTe] at hT ⊢
 conv=>whnf
 refine ⟨⟨ha.1,ha.2,hb.1,hb.2⟩,?_⟩
 intro hi lo e0 a1 a2 a3 a4 a5
 conv=>whnf
 refine ⟨⟨hw4.1,a3,Int.le_refl _,Int.zero_le_ofNat 1⟩,?_⟩
 intro x c e1 a6 a7 a8
 conv=>whnf
 have hc1:c≤1:=by omega
 refine ⟨⟨hw5.1,a1,a8,hc1⟩,?_⟩
 intro y d e2 b1 b2 b3
 conv=>whnf
 have hd1:d≤1:=by omega
 have hE:val8 w0 w1 w2 w3 x y w6 w7+q64 6*d=T:=by
  rw [hTe,← e0]
  clear hTe hT
  simp only [q64]
  unfold val8 val
  omega
 have hS:In8 w0 w1 w2 w3 x y w6 w7:=⟨hw0,hw1,hw2,hw3,⟨a6,a7⟩,⟨b1,b2⟩,hw6,hw7⟩
 clear e0 e1 e2
 refine .inr (loop_inv (gOk W0) (GaI T t) (fun k e' m' hI=>ga_round hT W0 _ (fun e r0 r1 r2 r3 r4 r5 r6 r7 hr hv=>?_) k e' m' hI) ?_)
 ·conv=>whnf
  exact ⟨rfl,_,rfl,rfl,r0,r1,r2,r3,r4,r5,r6,r7,hr,hv,rfl⟩
 ·refine ⟨2,_,_,wk_of (by (repeat' apply And.intro)<;>first | trivial | rfl) (by (repeat' apply And.intro)<;>first | trivial | rfl) (Nat.le_refl _) (Nat.le_refl _),⟨6,d,w0,w1,w2,w3,x,y,w6,w7,by decide,by decide,by decide,hS,by omega,hE,rfl,rfl⟩⟩

theorem gather5 {w0 w1 w2 w3 w4 w5 w6 w7 a b:Int} (hw:In8 w0 w1 w2 w3 w4 w5 w6 w7) (ha:InU a) (hb:InU b) (t:Nat) (hT:val8 w0 w1 w2 w3 w4 w5 w6 w7+q64 5*(a*b)<13407807929942597099574024998205846127479365820592393377723561443721764030073546976801874298166903427690031858186486050853753882811946569946433649006084096) (W0:World) :
  CALL PG W0 f_scalar_gather [.one (.ptr (some (.loc 0 0))),.one (.int .i64 5),.one (u a),.one (u b)] [some ⟨[u w0,u w1,u w2,u w3,u w4,u w5,u w6,u w7],t,0,false⟩] fun v m'=>v=.tup []∧∃ k,m'=[some k]∧closedL 0 k.cells=true∧GaR (val8 w0 w1 w2 w3 w4 w5 w6 w7+q64 5*(a*b)) t k:=by
 refine call_of_swp (gOk W0) (cd:=bodyOf F_scalar_gather) h_scalar_gather rfl (by kernel_rfl) (by kernel_rfl) ?_
 obtain ⟨hw0,hw1,hw2,hw3,hw4,hw5,hw6,hw7⟩:=hw
 obtain ⟨T,hTe⟩:∃ T,T=val8 w0 w1 w2 w3 w4 w5 w6 w7+q64 5*(a*b):=⟨_,rfl⟩
 rw [← hTe] at hT ⊢
 conv=>whnf
 refine ⟨⟨ha.1,ha.2,hb.1,hb.2⟩,?_⟩
 intro hi lo e0 a1 a2 a3 a4 a5
 conv=>whnf
 refine ⟨⟨hw5.1,a3,Int.le_refl _,Int.zero_le_ofNat 1⟩,?_⟩
 intro x c e1 a6 a7 a8
 conv=>whnf
 have hc1:c≤1:=by omega
 refine ⟨⟨hw6.1,a1,a8,hc1⟩,?_⟩
 intro y d e2 b1 b2 b3
 conv=>whnf
 have hd1:d≤1:=by omega
 have hE:val8 w0 w1 w2 w3 w4 x y w7+q64 7*d=T:=by
  rw [hTe,← e0]
  clear hTe hT
  simp only [q64]
  unfold val8 val
  omega
 have hS:In8 w0 w1 w2 w3 w4 x y w7:=⟨hw0,hw1,hw2,hw3,hw4,⟨a6,a7⟩,⟨b1,b2⟩,hw7⟩
 clear e0 e1 e2
 refine .inr (loop_inv (gOk W0) (GaI T t) (fun k e' m' hI=>ga_round hT W0 _ (fun e r0 r1 r2 r3 r4 r5 r6 r7 hr hv=>?_) k e' m' hI) ?_)
 ·conv=>whnf
  exact ⟨rfl,_,rfl,rfl,r0,r1,r2,r3,r4,r5,r6,r7,hr,hv,rfl⟩
 ·refine ⟨1,_,_,wk_of (by (repeat' apply And.intro)<;>first | trivial | rfl) (by (repeat' apply And.intro)<;>first | trivial | rfl) (Nat.le_refl _) (Nat.le_refl _),⟨7,d,w0,w1,w2,w3,w4,x,y,w7,by decide,by decide,by decide,hS,by omega,hE,rfl,rfl⟩⟩

theorem gather6 {w0 w1 w2 w3 w4 w5 w6 w7 a b:Int} (hw:In8 w0 w1 w2 w3 w4 w5 w6 w7) (ha:InU a) (hb:InU b) (t:Nat) (hT:val8 w0 w1 w2 w3 w4 w5 w6 w7+q64 6*(a*b)<13407807929942597099574024998205846127479365820592393377723561443721764030073546976801874298166903427690031858186486050853753882811946569946433649006084096) (W0:World) :
  CALL PG W0 f_scalar_gather [.one (.ptr (some (.loc 0 0))),.one (.int .i64 6),.one (u a),.one (u b)] [some ⟨[u w0,u w1,u w2,u w3,u w4,u w5,u w6,u w7],t,0,false⟩] fun v m'=>v=.tup []∧∃ k,m'=[some k]∧closedL 0 k.cells=true∧GaR (val8 w0 w1 w2 w3 w4 w5 w6 w7+q64 6*(a*b)) t k:=by
 refine call_of_swp (gOk W0) (cd:=bodyOf F_scalar_gather) h_scalar_gather rfl (by kernel_rfl) (by kernel_rfl) ?_
 obtain ⟨hw0,hw1,hw2,hw3,hw4,hw5,hw6,hw7⟩:=hw
 obtain ⟨T,hTe⟩:∃ T,T=val8 w0 w1 w2 w3 w4 w5 w6 w7+q64 6*(a*b):=⟨_,rfl⟩
 rw [← hTe] at hT ⊢
 conv=>whnf
 refine ⟨⟨ha.1,ha.2,hb.1,hb.2⟩,?_⟩
 intro hi lo e0 a1 a2 a3 a4 a5
 conv=>whnf
 refine ⟨⟨hw6.1,a3,Int.le_refl _,Int.zero_le_ofNat 1⟩,?_⟩
 intro x c e1 a6 a7 a8
 conv=>whnf
 have hc1:c≤1:=by omega
 refine ⟨⟨hw7.1,a1,a8,hc1⟩,?_⟩
 intro y d e2 b1 b2 b3
 conv=>whnf
 have hd1:d≤1:=by omega
 have hE:val8 w0 w1 w2 w3 w4 w5 x y+q64 8*d=T:=by
  rw [hTe,← e0]
  clear hTe hT
  simp only [q64]
  unfold val8 val
  omega
 have hS:In8 w0 w1 w2 w3 w4 w5 x y:=⟨hw0,hw1,hw2,hw3,hw4,hw5,⟨a6,a7⟩,⟨b1,b2⟩⟩
 clear e0 e1 e2
 refine .inr (loop_inv (gOk W0) (GaI T t) (fun k e' m' hI=>ga_round hT W0 _ (fun e r0 r1 r2 r3 r4 r5 r6 r7 hr hv=>?_) k e' m' hI) ?_)
 ·conv=>whnf
  exact ⟨rfl,_,rfl,rfl,r0,r1,r2,r3,r4,r5,r6,r7,hr,hv,rfl⟩
 ·refine ⟨0,_,_,wk_of (by (repeat' apply And.intro)<;>first | trivial | rfl) (by (repeat' apply And.intro)<;>first | trivial | rfl) (Nat.le_refl _) (Nat.le_refl _),⟨8,d,w0,w1,w2,w3,w4,w5,x,y,by decide,by decide,by decide,hS,by omega,hE,rfl,rfl⟩⟩

end Go.Ev

namespace Go.Ev

theorem gaR_ex {T:Int} (h0:0≤T) (h1:T<13407807929942597099574024998205846127479365820592393377723561443721764030073546976801874298166903427690031858186486050853753882811946569946433649006084096) (t:Nat):∃ k,GaR T t k:=by
 obtain ⟨a0,a1,a2,a3,i0,i1,i2,i3,e0⟩:=split4 (x:=T%115792089237316195423570985008687907853269984665640564039457584007913129639936) ⟨by omega,by omega⟩
 obtain ⟨b0,b1,b2,b3,j0,j1,j2,j3,e1⟩:=split4 (x:=T/115792089237316195423570985008687907853269984665640564039457584007913129639936) ⟨by omega,by omega⟩
 exact ⟨_,a0,a1,a2,a3,b0,b1,b2,b3,⟨i0,i1,i2,i3,j0,j1,j2,j3⟩,by unfold val8; rw [← e0,← e1]; omega,rfl⟩

theorem val8_nonneg {w0 w1 w2 w3 w4 w5 w6 w7:Int} (h:In8 w0 w1 w2 w3 w4 w5 w6 w7):0≤val8 w0 w1 w2 w3 w4 w5 w6 w7:=by
 obtain ⟨h0,h1,h2,h3,h4,h5,h6,h7⟩:=h
 unfold val8 val
 omega

def senv:Env:=[(2,.one (.ptr (some (.loc 1 0)))),(1,.one (.ptr (some (.loc 0 0))))]
def smem (w0 w1 w2 w3 w4 w5 w6 w7:Int) (t0 t1:Nat) (m:Mem):Mem:=some ⟨[u w0,u w1,u w2,u w3,u w4,u w5,u w6,u w7],t0,0,false⟩::some ⟨[u 0,u 0,u 0,u 0],t1,0,false⟩::m

def FolS (V:Int) (k:Nat) (e:Env) (m:Mem):Prop:=
 ∃ (w0 w1 w2 w3 w4 w5 w6 w7:Int) (t0 t1:Nat),In8 w0 w1 w2 w3 w4 w5 w6 w7∧1≤k∧k≤5∧val8 w0 w1 w2 w3 w4 w5 w6 w7%mdN.M=V%mdN.M∧val8 w0 w1 w2 w3 w4 w5 w6 w7<foldB k∧e=senv∧m=smem w0 w1 w2 w3 w4 w5 w6 w7 t0 t1 []

def MidS (w0 w1 w2 w3 w4 w5 w6 w7:Int) (k:Nat) (e:Env) (m:Mem):Prop:=
 ∃ (i:Nat) (r0 r1 r2 r3 r4 r5 r6 r7:Int) (t0 t1 t2:Nat),i≤4∧k=4-i∧In8 r0 r1 r2 r3 r4 r5 r6 r7∧val8 r0 r1 r2 r3 r4 r5 r6 r7=val w0 w1 w2 w3+hp w4 w5 w6 w7 i*mdN.L ∧
  e=(28,.one (.int .i64 i))::(3,.one (.ptr (some (.loc 2 0))))::senv∧m=smem w0 w1 w2 w3 w4 w5 w6 w7 t0 t1 [some ⟨[u r0,u r1,u r2,u r3,u r4,u r5,u r6,u r7],t2,0,false⟩]

set_option maxHeartbeats 1000000 in
theorem midS0 {w0 w1 w2 w3 w4 w5 w6 w7 r0 r1 r2 r3 r4 r5 r6 r7:Int} {t0 t1 t2:Nat} (hw:In8 w0 w1 w2 w3 w4 w5 w6 w7) (hr:In8 r0 r1 r2 r3 r4 r5 r6 r7) (hE0:val8 r0 r1 r2 r3 r4 r5 r6 r7=val w0 w1 w2 w3+hp w4 w5 w6 w7 0*mdN.L) (W0:World) (Q:Exit→Env→Mem→Prop) :
  swp (GG W0) (lp F_scalar_folded 1) (fun x e1 m1=>match x with
   | .normal=>∃ j e2 m2,j<4-0∧Wk (smem w0 w1 w2 w3 w4 w5 w6 w7 t0 t1 [some ⟨[u r0,u r1,u r2,u r3,u r4,u r5,u r6,u r7],t2,0,false⟩]).length e1 m1 e2 m2∧MidS w0 w1 w2 w3 w4 w5 w6 w7 j e2 m2
   | x=>Q x e1 m1) ((28,.one (.int .i64 (0:Nat)))::(3,.one (.ptr (some (.loc 2 0))))::senv) (smem w0 w1 w2 w3 w4 w5 w6 w7 t0 t1 [some ⟨[u r0,u r1,u r2,u r3,u r4,u r5,u r6,u r7],t2,0,false⟩]):=by
 have hS:=hp_succ mdN w4 w5 w6 w7
 obtain ⟨T,hT⟩:∃ T,T=val w0 w1 w2 w3+hp w4 w5 w6 w7 1*mdN.L:=⟨_,rfl⟩
 have hTb:=hp_bound mdN_ok hw (by decide) hT
 obtain ⟨hw0,hw1,hw2,hw3,hw4,hw5,hw6,hw7⟩:=hw
 have hl0:=mdN_ok.l0; have hl1:=mdN_ok.l1; have hl2:=mdN_ok.l2'
 have p0:=prod_le hw4 hl0
 have p1:=prod_le hw4 hl1
 have p2:=prod_le hw4 hl2
 have hv:=val8_nonneg hr
 have hsum:T=val8 r0 r1 r2 r3 r4 r5 r6 r7+q64 0*(w4*mdN.l0)+q64 1*(w4*mdN.l1)+q64 2*(w4*mdN.l2):=by
  rw [hT,hS.2.1,hE0,mul_L mdN w4]
  simp only [q64]
  omega
 have hb2:=hTb
 rw [hsum] at hb2
 have hb1:val8 r0 r1 r2 r3 r4 r5 r6 r7+q64 0*(w4*mdN.l0)+q64 1*(w4*mdN.l1)<13407807929942597099574024998205846127479365820592393377723561443721764030073546976801874298166903427690031858186486050853753882811946569946433649006084096:=by simp only [q64] at hb2 ⊢; omega
 have hb0:val8 r0 r1 r2 r3 r4 r5 r6 r7+q64 0*(w4*mdN.l0)<13407807929942597099574024998205846127479365820592393377723561443721764030073546976801874298166903427690031858186486050853753882811946569946433649006084096:=by simp only [q64] at hb2 ⊢; omega
 have n0:0≤val8 r0 r1 r2 r3 r4 r5 r6 r7+q64 0*(w4*mdN.l0):=by simp only [q64]; omega
 have n1:0≤val8 r0 r1 r2 r3 r4 r5 r6 r7+q64 0*(w4*mdN.l0)+q64 1*(w4*mdN.l1):=by simp only [q64]; omega
 have n2:0≤val8 r0 r1 r2 r3 r4 r5 r6 r7+q64 0*(w4*mdN.l0)+q64 1*(w4*mdN.l1)+q64 2*(w4*mdN.l2):=by simp only [q64]; omega
 clear hS hE0 hTb p0 p1 p2 hv
 conv=>whnf
 refine ⟨_,scLess_fn.2 _ _,rfl,?_⟩
 conv=>whnf
 refine .inl ⟨4,?_⟩
 conv=>whnf
 refine ⟨_,CALL.frame (b:=2) (blk:=⟨[u r0,u r1,u r2,u r3,u r4,u r5,u r6,u r7],t2,0,false⟩) rfl rfl (fun c=>rfl) rfl (gather0 hr hw4 hl0 t2 hb0 W0),⟨_,_,rfl,_,rfl,(gaR_ex n0 hb0 t2).choose_spec⟩,?_⟩
 rintro v m' ⟨rfl,kk,rfl,a0,a1,a2,a3,a4,a5,a6,a7,ha,ea,rfl⟩
 rw [← ea] at hb1 hb2 n1 n2 hsum
 conv=>whnf
 refine ⟨_,CALL.frame (b:=2) (blk:=⟨[u a0,u a1,u a2,u a3,u a4,u a5,u a6,u a7],t2,0,false⟩) rfl rfl (fun c=>rfl) rfl (gather1 ha hw4 hl1 t2 hb1 W0),⟨_,_,rfl,_,rfl,(gaR_ex n1 hb1 t2).choose_spec⟩,?_⟩
 rintro v m' ⟨rfl,kk,rfl,b0,b1,b2,b3,b4,b5,b6,b7,hb,eb,rfl⟩
 rw [← eb] at hb2 n2 hsum
 conv=>whnf
 refine ⟨_,CALL.frame (b:=2) (blk:=⟨[u b0,u b1,u b2,u b3,u b4,u b5,u b6,u b7],t2,0,false⟩) rfl rfl (fun c=>rfl) rfl (gather2 hb hw4 hl2 t2 hb2 W0),⟨_,_,rfl,_,rfl,(gaR_ex n2 hb2 t2).choose_spec⟩,?_⟩
 rintro v m' ⟨rfl,kk,rfl,c0,c1,c2,c3,c4,c5,c6,c7,hc,ec,rfl⟩
 rw [← ec] at hsum
 conv=>whnf
 refine ⟨3,_,_,by decide,wk_of (by (repeat' apply And.intro)<;>first | trivial | rfl) (by (repeat' apply And.intro)<;>first | trivial | rfl) (Nat.le_refl _) (Nat.le_refl _),⟨1,c0,c1,c2,c3,c4,c5,c6,c7,t0,t1,t2,by decide,by decide,hc,by rw [← hT]; exact hsum.symm,rfl,rfl⟩⟩

set_option maxHeartbeats 1000000 in
theorem midS1 {w0 w1 w2 w3 w4 w5 w6 w7 r0 r1 r2 r3 r4 r5 r6 r7:Int} {t0 t1 t2:Nat} (hw:In8 w0 w1 w2 w3 w4 w5 w6 w7) (hr:In8 r0 r1 r2 r3 r4 r5 r6 r7) (hE0:val8 r0 r1 r2 r3 r4 r5 r6 r7=val w0 w1 w2 w3+hp w4 w5 w6 w7 1*mdN.L) (W0:World) (Q:Exit→Env→Mem→Prop) :
  swp (GG W0) (lp F_scalar_folded 1) (fun x e1 m1=>match x with
   | .normal=>∃ j e2 m2,j<4-1∧Wk (smem w0 w1 w2 w3 w4 w5 w6 w7 t0 t1 [some ⟨[u r0,u r1,u r2,u r3,u r4,u r5,u r6,u r7],t2,0,false⟩]).length e1 m1 e2 m2∧MidS w0 w1 w2 w3 w4 w5 w6 w7 j e2 m2
   | x=>Q x e1 m1) ((28,.one (.int .i64 (1:Nat)))::(3,.one (.ptr (some (.loc 2 0))))::senv) (smem w0 w1 w2 w3 w4 w5 w6 w7 t0 t1 [some ⟨[u r0,u r1,u r2,u r3,u r4,u r5,u r6,u r7],t2,0,false⟩]):=by
 have hS:=hp_succ mdN w4 w5 w6 w7
 obtain ⟨T,hT⟩:∃ T,T=val w0 w1 w2 w3+hp w4 w5 w6 w7 2*mdN.L:=⟨_,rfl⟩
 have hTb:=hp_bound mdN_ok hw (by decide) hT
 obtain ⟨hw0,hw1,hw2,hw3,hw4,hw5,hw6,hw7⟩:=hw
 have hl0:=mdN_ok.l0; have hl1:=mdN_ok.l1; have hl2:=mdN_ok.l2'
 have p0:=prod_le hw5 hl0
 have p1:=prod_le hw5 hl1
 have p2:=prod_le hw5 hl2
 have hv:=val8_nonneg hr
 have hsum:T=val8 r0 r1 r2 r3 r4 r5 r6 r7+q64 1*(w5*mdN.l0)+q64 2*(w5*mdN.l1)+q64 3*(w5*mdN.l2):=by
  rw [hT,hS.2.2.1,hE0,mul_L mdN w5]
  simp only [q64]
  omega
 have hb2:=hTb
 rw [hsum] at hb2
 have hb1:val8 r0 r1 r2 r3 r4 r5 r6 r7+q64 1*(w5*mdN.l0)+q64 2*(w5*mdN.l1)<13407807929942597099574024998205846127479365820592393377723561443721764030073546976801874298166903427690031858186486050853753882811946569946433649006084096:=by simp only [q64] at hb2 ⊢; omega
 have hb0:val8 r0 r1 r2 r3 r4 r5 r6 r7+q64 1*(w5*mdN.l0)<13407807929942597099574024998205846127479365820592393377723561443721764030073546976801874298166903427690031858186486050853753882811946569946433649006084096:=by simp only [q64] at hb2 ⊢; omega
 have n0:0≤val8 r0 r1 r2 r3 r4 r5 r6 r7+q64 1*(w5*mdN.l0):=by simp only [q64]; omega
 have n1:0≤val8 r0 r1 r2 r3 r4 r5 r6 r7+q64 1*(w5*mdN.l0)+q64 2*(w5*mdN.l1):=by simp only [q64]; omega
 have n2:0≤val8 r0 r1 r2 r3 r4 r5 r6 r7+q64 1*(w5*mdN.l0)+q64 2*(w5*mdN.l1)+q64 3*(w5*mdN.l2):=by simp only [q64]; omega
 clear hS hE0 hTb p0 p1 p2 hv
 conv=>whnf
 refine ⟨_,scLess_fn.2 _ _,rfl,?_⟩
 conv=>whnf
 refine .inl ⟨4,?_⟩
 conv=>whnf
 refine ⟨_,CALL.frame (b:=2) (blk:=⟨[u r0,u r1,u r2,u r3,u r4,u r5,u r6,u r7],t2,0,false⟩) rfl rfl (fun c=>rfl) rfl (gather1 hr hw5 hl0 t2 hb0 W0),⟨_,_,rfl,_,rfl,(gaR_ex n0 hb0 t2).choose_spec⟩,?_⟩
 rintro v m' ⟨rfl,kk,rfl,a0,a1,a2,a3,a4,a5,a6,a7,ha,ea,rfl⟩
 rw [← ea] at hb1 hb2 n1 n2 hsum
 conv=>whnf
 refine ⟨_,CALL.frame (b:=2) (blk:=⟨[u a0,u a1,u a2,u a3,u a4,u a5,u a6,u a7],t2,0,false⟩) rfl rfl (fun c=>rfl) rfl (gather2 ha hw5 hl1 t2 hb1 W0),⟨_,_,rfl,_,rfl,(gaR_ex n1 hb1 t2).choose_spec⟩,?_⟩
 rintro v m' ⟨rfl,kk,rfl,b0,b1,b2,b3,b4,b5,b6,b7,hb,eb,rfl⟩
 rw [← eb] at hb2 n2 hsum
 conv=>whnf
 refine ⟨_,CALL.frame (b:=2) (blk:=⟨[u b0,u b1,u b2,u b3,u b4,u b5,u b6,u b7],t2,0,false⟩) rfl rfl (fun c=>rfl) rfl (gather3 hb hw5 hl2 t2 hb2 W0),⟨_,_,rfl,_,rfl,(gaR_ex n2 hb2 t2).choose_spec⟩,?_⟩
 rintro v m' ⟨rfl,kk,rfl,c0,c1,c2,c3,c4,c5,c6,c7,hc,ec,rfl⟩
 rw [← ec] at hsum
 conv=>whnf
 refine ⟨2,_,_,by decide,wk_of (by (repeat' apply And.intro)<;>first | trivial | rfl) (by (repeat' apply And.intro)<;>first | trivial | rfl) (Nat.le_refl _) (Nat.le_refl _),⟨2,c0,c1,c2,c3,c4,c5,c6,c7,t0,t1,t2,by decide,by decide,hc,by rw [← hT]; exact hsum.symm,rfl,rfl⟩⟩

set_option maxHeartbeats 1000000 in
theorem midS2 {w0 w1 w2 w3 w4 w5 w6 w7 r0 r1 r2 r3 r4 r5 r6 r7:Int} {t0 t1 t2:Nat} (hw:In8 w0 w1 w2 w3 w4 w5 w6 w7) (hr:In8 r0 r1 r2 r3 r4 r5 r6 r7) (hE0:val8 r0 r1 r2 r3 r4 r5 r6 r7=val w0 w1 w2 w3+hp w4 w5 w6 w7 2*mdN.L) (W0:World) (Q:Exit→Env→Mem→Prop) :
  swp (GG W0) (lp F_scalar_folded 1) (fun x e1 m1=>match x with
   | .normal=>∃ j e2 m2,j<4-2∧Wk (smem w0 w1 w2 w3 w4 w5 w6 w7 t0 t1 [some ⟨[u r0,u r1,u r2,u r3,u r4,u r5,u r6,u r7],t2,0,false⟩]).length e1 m1 e2 m2∧MidS w0 w1 w2 w3 w4 w5 w6 w7 j e2 m2
   | x=>Q x e1 m1) ((28,.one (.int .i64 (2:Nat)))::(3,.one (.ptr (some (.loc 2 0))))::senv) (smem w0 w1 w2 w3 w4 w5 w6 w7 t0 t1 [some ⟨[u r0,u r1,u r2,u r3,u r4,u r5,u r6,u r7],t2,0,false⟩]):=by
 have hS:=hp_succ mdN w4 w5 w6 w7
 obtain ⟨T,hT⟩:∃ T,T=val w0 w1 w2 w3+hp w4 w5 w6 w7 3*mdN.L:=⟨_,rfl⟩
 have hTb:=hp_bound mdN_ok hw (by decide) hT
 obtain ⟨hw0,hw1,hw2,hw3,hw4,hw5,hw6,hw7⟩:=hw
 have hl0:=mdN_ok.l0; have hl1:=mdN_ok.l1; have hl2:=mdN_ok.l2'
 have p0:=prod_le hw6 hl0
 have p1:=prod_le hw6 hl1
 have p2:=prod_le hw6 hl2
 have hv:=val8_nonneg hr
 have hsum:T=val8 r0 r1 r2 r3 r4 r5 r6 r7+q64 2*(w6*mdN.l0)+q64 3*(w6*mdN.l1)+q64 4*(w6*mdN.l2):=by
  rw [hT,hS.2.2.2.1,hE0,mul_L mdN w6]
  simp only [q64]
  omega
 have hb2:=hTb
 rw [hsum] at hb2
 have hb1:val8 r0 r1 r2 r3 r4 r5 r6 r7+q64 2*(w6*mdN.l0)+q64 3*(w6*mdN.l1)<13407807929942597099574024998205846127479365820592393377723561443721764030073546976801874298166903427690031858186486050853753882811946569946433649006084096:=by simp only [q64] at hb2 ⊢; omega
 have hb0:val8 r0 r1 r2 r3 r4 r5 r6 r7+q64 2*(w6*mdN.l0)<13407807929942597099574024998205846127479365820592393377723561443721764030073546976801874298166903427690031858186486050853753882811946569946433649006084096:=by simp only [q64] at hb2 ⊢; omega
 have n0:0≤val8 r0 r1 r2 r3 r4 r5 r6 r7+q64 2*(w6*mdN.l0):=by simp only [q64]; omega
 have n1:0≤val8 r0 r1 r2 r3 r4 r5 r6 r7+q64 2*(w6*mdN.l0)+q64 3*(w6*mdN.l1):=by simp only [q64]; omega
 have n2:0≤val8 r0 r1 r2 r3 r4 r5 r6 r7+q64 2*(w6*mdN.l0)+q64 3*(w6*mdN.l1)+q64 4*(w6*mdN.l2):=by simp only [q64]; omega
 clear hS hE0 hTb p0 p1 p2 hv
 conv=>whnf
 refine ⟨_,scLess_fn.2 _ _,rfl,?_⟩
 conv=>whnf
 refine .inl ⟨4,?_⟩
 conv=>whnf
 refine ⟨_,CALL.frame (b:=2) (blk:=⟨[u r0,u r1,u r2,u r3,u r4,u r5,u r6,u r7],t2,0,false⟩) rfl rfl (fun c=>rfl) rfl (gather2 hr hw6 hl0 t2 hb0 W0),⟨_,_,rfl,_,rfl,(gaR_ex n0 hb0 t2).choose_spec⟩,?_⟩
 rintro v m' ⟨rfl,kk,rfl,a0,a1,a2,a3,a4,a5,a6,a7,ha,ea,rfl⟩
 rw [← ea] at hb1 hb2 n1 n2 hsum
 conv=>whnf
 refine ⟨_,CALL.frame (b:=2) (blk:=⟨[u a0,u a1,u a2,u a3,u a4,u a5,u a6,u a7],t2,0,false⟩) rfl rfl (fun c=>rfl) rfl (gather3 ha hw6 hl1 t2 hb1 W0),⟨_,_,rfl,_,rfl,(gaR_ex n1 hb1 t2).choose_spec⟩,?_⟩
 rintro v m' ⟨rfl,kk,rfl,b0,b1,b2,b3,b4,b5,b6,b7,hb,eb,rfl⟩
 rw [← eb] at hb2 n2 hsum
 conv=>whnf
 refine ⟨_,CALL.frame (b:=2) (blk:=⟨[u b0,u b1,u b2,u b3,u b4,u b5,u b6,u b7],t2,0,false⟩) rfl rfl (fun c=>rfl) rfl (gather4 hb hw6 hl2 t2 hb2 W0),⟨_,_,rfl,_,rfl,(gaR_ex n2 hb2 t2).choose_spec⟩,?_⟩
 rintro v m' ⟨rfl,kk,rfl,c0,c1,c2,c3,c4,c5,c6,c7,hc,ec,rfl⟩
 rw [← ec] at hsum
 conv=>whnf
 refine ⟨1,_,_,by decide,wk_of (by (repeat' apply And.intro)<;>first | trivial | rfl) (by (repeat' apply And.intro)<;>first | trivial | rfl) (Nat.le_refl _) (Nat.le_refl _),⟨3,c0,c1,c2,c3,c4,c5,c6,c7,t0,t1,t2,by decide,by decide,hc,by rw [← hT]; exact hsum.symm,rfl,rfl⟩⟩

set_option maxHeartbeats 1000000 in
theorem midS3 {w0 w1 w2 w3 w4 w5 w6 w7 r0 r1 r2 r3 r4 r5 r6 r7:Int} {t0 t1 t2:Nat} (hw:In8 w0 w1 w2 w3 w4 w5 w6 w7) (hr:In8 r0 r1 r2 r3 r4 r5 r6 r7) (hE0:val8 r0 r1 r2 r3 r4 r5 r6 r7=val w0 w1 w2 w3+hp w4 w5 w6 w7 3*mdN.L) (W0:World) (Q:Exit→Env→Mem→Prop) :
  swp (GG W0) (lp F_scalar_folded 1) (fun x e1 m1=>match x with
   | .normal=>∃ j e2 m2,j<4-3∧Wk (smem w0 w1 w2 w3 w4 w5 w6 w7 t0 t1 [some ⟨[u r0,u r1,u r2,u r3,u r4,u r5,u r6,u r7],t2,0,false⟩]).length e1 m1 e2 m2∧MidS w0 w1 w2 w3 w4 w5 w6 w7 j e2 m2
   | x=>Q x e1 m1) ((28,.one (.int .i64 (3:Nat)))::(3,.one (.ptr (some (.loc 2 0))))::senv) (smem w0 w1 w2 w3 w4 w5 w6 w7 t0 t1 [some ⟨[u r0,u r1,u r2,u r3,u r4,u r5,u r6,u r7],t2,0,false⟩]):=by
 have hS:=hp_succ mdN w4 w5 w6 w7
 obtain ⟨T,hT⟩:∃ T,T=val w0 w1 w2 w3+hp w4 w5 w6 w7 4*mdN.L:=⟨_,rfl⟩
 have hTb:=hp_bound mdN_ok hw (by decide) hT
 obtain ⟨hw0,hw1,hw2,hw3,hw4,hw5,hw6,hw7⟩:=hw
 have hl0:=mdN_ok.l0; have hl1:=mdN_ok.l1; have hl2:=mdN_ok.l2'
 have p0:=prod_le hw7 hl0
 have p1:=prod_le hw7 hl1
 have p2:=prod_le hw7 hl2
 have hv:=val8_nonneg hr
 have hsum:T=val8 r0 r1 r2 r3 r4 r5 r6 r7+q64 3*(w7*mdN.l0)+q64 4*(w7*mdN.l1)+q64 5*(w7*mdN.l2):=by
  rw [hT,hS.2.2.2.2,hE0,mul_L mdN w7]
  simp only [q64]
  omega
 have hb2:=hTb
 rw [hsum] at hb2
 have hb1:val8 r0 r1 r2 r3 r4 r5 r6 r7+q64 3*(w7*mdN.l0)+q64 4*(w7*mdN.l1)<13407807929942597099574024998205846127479365820592393377723561443721764030073546976801874298166903427690031858186486050853753882811946569946433649006084096:=by simp only [q64] at hb2 ⊢; omega
 have hb0:val8 r0 r1 r2 r3 r4 r5 r6 r7+q64 3*(w7*mdN.l0)<13407807929942597099574024998205846127479365820592393377723561443721764030073546976801874298166903427690031858186486050853753882811946569946433649006084096:=by simp only [q64] at hb2 ⊢; omega
 have n0:0≤val8 r0 r1 r2 r3 r4 r5 r6 r7+q64 3*(w7*mdN.l0):=by simp only [q64]; omega
 have n1:0≤val8 r0 r1 r2 r3 r4 r5 r6 r7+q64 3*(w7*mdN.l0)+q64 4*(w7*mdN.l1):=by simp only [q64]; omega
 have n2:0≤val8 r0 r1 r2 r3 r4 r5 r6 r7+q64 3*(w7*mdN.l0)+q64 4*(w7*mdN.l1)+q64 5*(w7*mdN.l2):=by simp only [q64]; omega
 clear hS hE0 hTb p0 p1 p2 hv
 conv=>whnf
 refine ⟨_,scLess_fn.2 _ _,rfl,?_⟩
 conv=>whnf
 refine .inl ⟨4,?_⟩
 conv=>whnf
 refine ⟨_,CALL.frame (b:=2) (blk:=⟨[u r0,u r1,u r2,u r3,u r4,u r5,u r6,u r7],t2,0,false⟩) rfl rfl (fun c=>rfl) rfl (gather3 hr hw7 hl0 t2 hb0 W0),⟨_,_,rfl,_,rfl,(gaR_ex n0 hb0 t2).choose_spec⟩,?_⟩
 rintro v m' ⟨rfl,kk,rfl,a0,a1,a2,a3,a4,a5,a6,a7,ha,ea,rfl⟩
 rw [← ea] at hb1 hb2 n1 n2 hsum
 conv=>whnf
 refine ⟨_,CALL.frame (b:=2) (blk:=⟨[u a0,u a1,u a2,u a3,u a4,u a5,u a6,u a7],t2,0,false⟩) rfl rfl (fun c=>rfl) rfl (gather4 ha hw7 hl1 t2 hb1 W0),⟨_,_,rfl,_,rfl,(gaR_ex n1 hb1 t2).choose_spec⟩,?_⟩
 rintro v m' ⟨rfl,kk,rfl,b0,b1,b2,b3,b4,b5,b6,b7,hb,eb,rfl⟩
 rw [← eb] at hb2 n2 hsum
 conv=>whnf
 refine ⟨_,CALL.frame (b:=2) (blk:=⟨[u b0,u b1,u b2,u b3,u b4,u b5,u b6,u b7],t2,0,false⟩) rfl rfl (fun c=>rfl) rfl (gather5 hb hw7 hl2 t2 hb2 W0),⟨_,_,rfl,_,rfl,(gaR_ex n2 hb2 t2).choose_spec⟩,?_⟩
 rintro v m' ⟨rfl,kk,rfl,c0,c1,c2,c3,c4,c5,c6,c7,hc,ec,rfl⟩
 rw [← ec] at hsum
 conv=>whnf
 refine ⟨0,_,_,by decide,wk_of (by (repeat' apply And.intro)<;>first | trivial | rfl) (by (repeat' apply And.intro)<;>first | trivial | rfl) (Nat.le_refl _) (Nat.le_refl _),⟨4,c0,c1,c2,c3,c4,c5,c6,c7,t0,t1,t2,by decide,by decide,hc,by rw [← hT]; exact hsum.symm,rfl,rfl⟩⟩

theorem ne4 {a b c d:Int} (ha:InU a) (hb:InU b) (hc:InU c) (hd:InU d):(or2 (or2 (or2 a b) c) d != 0)=decide (0<val a b c d):=by
 rw [← or4 ha hb hc hd]
 have h1:=or_u ha hb
 have h2:=or_u h1.2.1 hc
 have h3:=or_u h2.2.1 hd
 have i3:=h3.2.1
 generalize or2 (or2 (or2 a b) c) d=z at *
 by_cases h:z=0
 ·subst h; rfl
 ·have h2:z > 0:=by omega
  rw [decide_eq_true h2]
  simp [h]

set_option maxHeartbeats 1000000 in
theorem scFolded_fn {w0 w1 w2 w3 w4 w5 w6 w7:Int} (hw:In8 w0 w1 w2 w3 w4 w5 w6 w7):Fn PG f_scalar_folded [.agg [u w0,u w1,u w2,u w3,u w4,u w5,u w6,u w7]] (W (val8 w0 w1 w2 w3 w4 w5 w6 w7%nn)):=by
 obtain ⟨V,hV⟩:∃ V,V=val8 w0 w1 w2 w3 w4 w5 w6 w7:=⟨_,rfl⟩
 rw [← hV]
 have z0:InU 0:=⟨by omega,by omega⟩
 refine fn_go h_scalar_folded rfl (by kernel_rfl) (fun _=>by kernel_rfl) rfl rfl fun W0=>?_
 conv=>whnf
 refine .inr (loop_inv (gOk W0) (FolS V) ?_ ?_)
 ·clear hw hV
  intro k e' m' hI
  obtain ⟨w0,w1,w2,w3,w4,w5,w6,w7,t0,t1,hw,hk1,hk5,hmod,hbnd,rfl,rfl⟩:=hI
  obtain ⟨hw0,hw1,hw2,hw3,hw4,hw5,hw6,hw7⟩:=hw
  conv=>whnf
  rw [(or_u hw4 hw5).1,(or_u (or_u hw4 hw5).2.1 hw6).1,(or_u (or_u (or_u hw4 hw5).2.1 hw6).2.1 hw7).1,ne4 hw4 hw5 hw6 hw7]
  split
  ·rename_i hh
   have hh:=of_decide_eq_true hh
   conv=>whnf
   refine .inr (loop_inv (gOk W0) (MidS w0 w1 w2 w3 w4 w5 w6 w7) ?_ ?_)
   ·intro k2 e' m' hI
    obtain ⟨i,r0,r1,r2,r3,r4,r5,r6,r7,t0,t1,t2,hi4,rfl,hr,hE0,rfl,rfl⟩:=hI
    obtain rfl | rfl | rfl | rfl | rfl:i=0∨i=1∨i=2∨i=3∨i=4:=by omega
    ·exact midS0 ⟨hw0,hw1,hw2,hw3,hw4,hw5,hw6,hw7⟩ hr hE0 W0 _
    ·exact midS1 ⟨hw0,hw1,hw2,hw3,hw4,hw5,hw6,hw7⟩ hr hE0 W0 _
    ·exact midS2 ⟨hw0,hw1,hw2,hw3,hw4,hw5,hw6,hw7⟩ hr hE0 W0 _
    ·exact midS3 ⟨hw0,hw1,hw2,hw3,hw4,hw5,hw6,hw7⟩ hr hE0 W0 _
    ·conv=>whnf
     have hn:=fold_next mdN_ok ⟨hw0,hw1,hw2,hw3,hw4,hw5,hw6,hw7⟩ hr hk1 hk5 hbnd hh hE0
     refine ⟨k-1,_,_,by omega,wk_of (by (repeat' apply And.intro)<;>first | trivial | rfl) (by (repeat' apply And.intro)<;>first | trivial | rfl) (by exact Nat.le_succ 2) (by exact Nat.le_refl 2),⟨_,_,_,_,_,_,_,_,t0,t1,hr,by omega,by omega,hn.2.2.trans hmod,hn.2.1,rfl,rfl⟩⟩
   ·refine ⟨4,_,_,wk_of (by (repeat' apply And.intro)<;>first | trivial | rfl) (by (repeat' apply And.intro)<;>first | trivial | rfl) (Nat.le_refl _) (Nat.le_refl _),⟨0,w0,w1,w2,w3,0,0,0,0,_,_,_,by decide,by decide,⟨hw0,hw1,hw2,hw3,z0,z0,z0,z0⟩,?_,rfl,rfl⟩⟩
    rw [(hp_succ mdN w4 w5 w6 w7).1]
    unfold val8
    show _+_*0=_
    omega
  ·rename_i hh
   have hh:=of_decide_eq_false hh
   conv=>whnf
   have e0:val8 w0 w1 w2 w3 w4 w5 w6 w7=val w0 w1 w2 w3:=by unfold val8 val at *; omega
   have hN:=scNorm_fn (x:=val w0 w1 w2 w3) ⟨by unfold val; omega,by unfold val; omega⟩
   rw [← mdN_M,← e0,hmod,e0] at hN
   unfold W at hN
   rw [words_val hw0 hw1 hw2 hw3] at hN
   refine ⟨_,hN.2 _ _,rfl,?_⟩
   conv=>whnf
   rw [mdN_M]
   rfl
 ·refine ⟨5,_,_,wk_of (by (repeat' apply And.intro)<;>first | trivial | rfl) (by (repeat' apply And.intro)<;>first | trivial | rfl) (Nat.le_refl _) (Nat.le_refl _),⟨w0,w1,w2,w3,w4,w5,w6,w7,_,_,hw,by decide,by decide,by rw [hV],?_,rfl,rfl⟩⟩
  obtain ⟨hw0,hw1,hw2,hw3,hw4,hw5,hw6,hw7⟩:=hw
  simp only [foldB]
  unfold val8 val
  omega

end Go.Ev

namespace Go.Ev

theorem mul_val (a b0 b1 b2 b3:Int):a*val b0 b1 b2 b3=a*b0+18446744073709551616*(a*b1)+340282366920938463463374607431768211456*(a*b2)+6277101735386680763835789423207666416102355444464034512896*(a*b3):=by
 rw [Int.mul_comm a,val_mul,Int.mul_comm b0,Int.mul_comm b1,Int.mul_comm b2,Int.mul_comm b3]

theorem ap_bound {a0 a1 a2 a3 b0 b1 b2 b3:Int} (ha:InU a0∧InU a1∧InU a2∧InU a3) (hb:InU b0∧InU b1∧InU b2∧InU b3) {i:Nat} (hi:i≤4):ap a0 a1 a2 a3 i*val b0 b1 b2 b3<13407807929942597099574024998205846127479365820592393377723561443721764030073546976801874298166903427690031858186486050853753882811946569946433649006084096:=by
 obtain ⟨h0,h1,h2,h3⟩:=ha
 obtain ⟨g0,g1,g2,g3⟩:=hb
 have a:0≤ap a0 a1 a2 a3 i∧ap a0 a1 a2 a3 i≤115792089237316195423570985008687907853269984665640564039457584007913129639935:=by
  obtain rfl | rfl | rfl | rfl | rfl:i=0∨i=1∨i=2∨i=3∨i=4:=by omega
  all_goals simp only [ap,val]
  all_goals exact ⟨by omega,by omega⟩
 have b:0≤val b0 b1 b2 b3∧val b0 b1 b2 b3≤115792089237316195423570985008687907853269984665640564039457584007913129639935:=by unfold val; exact ⟨by omega,by omega⟩
 have:=Int.mul_le_mul a.2 b.2 b.1 (by omega)
 omega

def scmEnv (a0 a1 a2 a3:Int) (i:Nat):Env:=[(11,.one (.int .i64 i)),(10,.agg [u a0,u a1,u a2,u a3]),(5,.one (.ptr (some (.loc 3 0)))),(4,.one (.ptr (some (.loc 2 0)))),(3,.one (.ptr (some (.loc 1 0)))),(2,.one (.ptr (some (.loc 0 0))))]
def scmMem (a0 a1 a2 a3 b0 b1 b2 b3:Int) (t0 t1 t2 t3:Nat) (w0 w1 w2 w3 w4 w5 w6 w7:Int):Mem:=[some ⟨[u a0,u a1,u a2,u a3],t0,0,false⟩,some ⟨[u b0,u b1,u b2,u b3],t1,0,false⟩,
 some ⟨[u 0,u 0,u 0,u 0],t2,0,false⟩,some ⟨[u w0,u w1,u w2,u w3,u w4,u w5,u w6,u w7],t3,0,false⟩]

def ScmI (a0 a1 a2 a3 b0 b1 b2 b3:Int) (k:Nat) (e:Env) (m:Mem):Prop:=
 ∃ (i:Nat) (w0 w1 w2 w3 w4 w5 w6 w7:Int) (t0 t1 t2 t3:Nat),i≤4∧k=4-i∧In8 w0 w1 w2 w3 w4 w5 w6 w7∧val8 w0 w1 w2 w3 w4 w5 w6 w7=ap a0 a1 a2 a3 i*val b0 b1 b2 b3 ∧
  e=scmEnv a0 a1 a2 a3 i∧m=scmMem a0 a1 a2 a3 b0 b1 b2 b3 t0 t1 t2 t3 w0 w1 w2 w3 w4 w5 w6 w7

set_option maxHeartbeats 1000000 in
theorem scmRow0 {a0 a1 a2 a3 b0 b1 b2 b3 w0 w1 w2 w3 w4 w5 w6 w7:Int} {t0 t1 t2 t3:Nat} (ha:InU a0∧InU a1∧InU a2∧InU a3) (hb:InU b0∧InU b1∧InU b2∧InU b3) (hw:In8 w0 w1 w2 w3 w4 w5 w6 w7) (hE0:val8 w0 w1 w2 w3 w4 w5 w6 w7=ap a0 a1 a2 a3 0*val b0 b1 b2 b3) (W0:World) (Q:Exit→Env→Mem→Prop) :
  swp (GG W0) (lp F_scalar_Mul 0) (fun x e1 m1=>match x with
   | .normal=>∃ j e2 m2,j<4-0∧Wk (scmMem a0 a1 a2 a3 b0 b1 b2 b3 t0 t1 t2 t3 w0 w1 w2 w3 w4 w5 w6 w7).length e1 m1 e2 m2∧ScmI a0 a1 a2 a3 b0 b1 b2 b3 j e2 m2
   | x=>Q x e1 m1) (scmEnv a0 a1 a2 a3 0) (scmMem a0 a1 a2 a3 b0 b1 b2 b3 t0 t1 t2 t3 w0 w1 w2 w3 w4 w5 w6 w7):=by
 have hS:=ap_succ a0 a1 a2 a3 (val b0 b1 b2 b3)
 have hTb:=ap_bound ha hb (i:=1) (by decide)
 obtain ⟨ha0,ha1,ha2,ha3⟩:=ha
 obtain ⟨hb0,hb1,hb2,hb3⟩:=hb
 have hv:=val8_nonneg hw
 have p0:=prod_le ha0 hb0
 have p1:=prod_le ha0 hb1
 have p2:=prod_le ha0 hb2
 have p3:=prod_le ha0 hb3
 have hsum:ap a0 a1 a2 a3 1*val b0 b1 b2 b3=val8 w0 w1 w2 w3 w4 w5 w6 w7+q64 0*(a0*b0)+q64 1*(a0*b1)+q64 2*(a0*b2)+q64 3*(a0*b3):=by
  rw [hS.2.1,hE0,mul_val a0]
  simp only [q64]
  omega
 have hx3:=hTb
 rw [hsum] at hx3
 have hx2:val8 w0 w1 w2 w3 w4 w5 w6 w7+q64 0*(a0*b0)+q64 1*(a0*b1)+q64 2*(a0*b2)<13407807929942597099574024998205846127479365820592393377723561443721764030073546976801874298166903427690031858186486050853753882811946569946433649006084096:=by simp only [q64] at hx3 ⊢; omega
 have hx1:val8 w0 w1 w2 w3 w4 w5 w6 w7+q64 0*(a0*b0)+q64 1*(a0*b1)<13407807929942597099574024998205846127479365820592393377723561443721764030073546976801874298166903427690031858186486050853753882811946569946433649006084096:=by simp only [q64] at hx3 ⊢; omega
 have hx0:val8 w0 w1 w2 w3 w4 w5 w6 w7+q64 0*(a0*b0)<13407807929942597099574024998205846127479365820592393377723561443721764030073546976801874298166903427690031858186486050853753882811946569946433649006084096:=by simp only [q64] at hx3 ⊢; omega
 have n0:0≤val8 w0 w1 w2 w3 w4 w5 w6 w7+q64 0*(a0*b0):=by simp only [q64]; omega
 have n1:0≤val8 w0 w1 w2 w3 w4 w5 w6 w7+q64 0*(a0*b0)+q64 1*(a0*b1):=by simp only [q64]; omega
 have n2:0≤val8 w0 w1 w2 w3 w4 w5 w6 w7+q64 0*(a0*b0)+q64 1*(a0*b1)+q64 2*(a0*b2):=by simp only [q64]; omega
 have n3:0≤val8 w0 w1 w2 w3 w4 w5 w6 w7+q64 0*(a0*b0)+q64 1*(a0*b1)+q64 2*(a0*b2)+q64 3*(a0*b3):=by simp only [q64]; omega
 clear hS hE0 hTb p0 p1 p2 p3 hv
 conv=>whnf
 refine .inl ⟨5,?_⟩
 conv=>whnf
 refine ⟨_,CALL.frame (b:=3) (blk:=⟨[u w0,u w1,u w2,u w3,u w4,u w5,u w6,u w7],t3,0,false⟩) rfl rfl (fun c=>rfl) rfl (gather0 hw ha0 hb0 t3 hx0 W0),⟨_,_,rfl,_,rfl,(gaR_ex n0 hx0 t3).choose_spec⟩,?_⟩
 rintro v m' ⟨rfl,kk,rfl,c0,c1,c2,c3,c4,c5,c6,c7,hc,ec,rfl⟩
 rw [← ec] at hx1 hx2 hx3 n1 n2 n3 hsum
 conv=>whnf
 refine ⟨_,CALL.frame (b:=3) (blk:=⟨[u c0,u c1,u c2,u c3,u c4,u c5,u c6,u c7],t3,0,false⟩) rfl rfl (fun c=>rfl) rfl (gather1 hc ha0 hb1 t3 hx1 W0),⟨_,_,rfl,_,rfl,(gaR_ex n1 hx1 t3).choose_spec⟩,?_⟩
 rintro v m' ⟨rfl,kk,rfl,d0,d1,d2,d3,d4,d5,d6,d7,hd,ed,rfl⟩
 rw [← ed] at hx2 hx3 n2 n3 hsum
 conv=>whnf
 refine ⟨_,CALL.frame (b:=3) (blk:=⟨[u d0,u d1,u d2,u d3,u d4,u d5,u d6,u d7],t3,0,false⟩) rfl rfl (fun c=>rfl) rfl (gather2 hd ha0 hb2 t3 hx2 W0),⟨_,_,rfl,_,rfl,(gaR_ex n2 hx2 t3).choose_spec⟩,?_⟩
 rintro v m' ⟨rfl,kk,rfl,f0,f1,f2,f3,f4,f5,f6,f7,hf,ef,rfl⟩
 rw [← ef] at hx3 n3 hsum
 conv=>whnf
 refine ⟨_,CALL.frame (b:=3) (blk:=⟨[u f0,u f1,u f2,u f3,u f4,u f5,u f6,u f7],t3,0,false⟩) rfl rfl (fun c=>rfl) rfl (gather3 hf ha0 hb3 t3 hx3 W0),⟨_,_,rfl,_,rfl,(gaR_ex n3 hx3 t3).choose_spec⟩,?_⟩
 rintro v m' ⟨rfl,kk,rfl,g0,g1,g2,g3,g4,g5,g6,g7,hg,eg,rfl⟩
 rw [← eg] at hsum
 conv=>whnf
 refine ⟨3,_,_,by decide,wk_of (by (repeat' apply And.intro)<;>first | trivial | rfl) (by (repeat' apply And.intro)<;>first | trivial | rfl) (Nat.le_refl _) (Nat.le_refl _),⟨1,g0,g1,g2,g3,g4,g5,g6,g7,t0,t1,t2,t3,by decide,by decide,hg,hsum.symm,rfl,rfl⟩⟩

set_option maxHeartbeats 1000000 in
theorem scmRow1 {a0 a1 a2 a3 b0 b1 b2 b3 w0 w1 w2 w3 w4 w5 w6 w7:Int} {t0 t1 t2 t3:Nat} (ha:InU a0∧InU a1∧InU a2∧InU a3) (hb:InU b0∧InU b1∧InU b2∧InU b3) (hw:In8 w0 w1 w2 w3 w4 w5 w6 w7) (hE0:val8 w0 w1 w2 w3 w4 w5 w6 w7=ap a0 a1 a2 a3 1*val b0 b1 b2 b3) (W0:World) (Q:Exit→Env→Mem→Prop) :
  swp (GG W0) (lp F_scalar_Mul 0) (fun x e1 m1=>match x with
   | .normal=>∃ j e2 m2,j<4-1∧Wk (scmMem a0 a1 a2 a3 b0 b1 b2 b3 t0 t1 t2 t3 w0 w1 w2 w3 w4 w5 w6 w7).length e1 m1 e2 m2∧ScmI a0 a1 a2 a3 b0 b1 b2 b3 j e2 m2
   | x=>Q x e1 m1) (scmEnv a0 a1 a2 a3 1) (scmMem a0 a1 a2 a3 b0 b1 b2 b3 t0 t1 t2 t3 w0 w1 w2 w3 w4 w5 w6 w7):=by
 have hS:=ap_succ a0 a1 a2 a3 (val b0 b1 b2 b3)
 have hTb:=ap_bound ha hb (i:=2) (by decide)
 obtain ⟨ha0,ha1,ha2,ha3⟩:=ha
 obtain ⟨hb0,hb1,hb2,hb3⟩:=hb
 have hv:=val8_nonneg hw
 have p0:=prod_le ha1 hb0
 have p1:=prod_le ha1 hb1
 have p2:=prod_le ha1 hb2
 have p3:=prod_le ha1 hb3
 have hsum:ap a0 a1 a2 a3 2*val b0 b1 b2 b3=val8 w0 w1 w2 w3 w4 w5 w6 w7+q64 1*(a1*b0)+q64 2*(a1*b1)+q64 3*(a1*b2)+q64 4*(a1*b3):=by
  rw [hS.2.2.1,hE0,mul_val a1]
  simp only [q64]
  omega
 have hx3:=hTb
 rw [hsum] at hx3
 have hx2:val8 w0 w1 w2 w3 w4 w5 w6 w7+q64 1*(a1*b0)+q64 2*(a1*b1)+q64 3*(a1*b2)<13407807929942597099574024998205846127479365820592393377723561443721764030073546976801874298166903427690031858186486050853753882811946569946433649006084096:=by simp only [q64] at hx3 ⊢; omega
 have hx1:val8 w0 w1 w2 w3 w4 w5 w6 w7+q64 1*(a1*b0)+q64 2*(a1*b1)<13407807929942597099574024998205846127479365820592393377723561443721764030073546976801874298166903427690031858186486050853753882811946569946433649006084096:=by simp only [q64] at hx3 ⊢; omega
 have hx0:val8 w0 w1 w2 w3 w4 w5 w6 w7+q64 1*(a1*b0)<13407807929942597099574024998205846127479365820592393377723561443721764030073546976801874298166903427690031858186486050853753882811946569946433649006084096:=by simp only [q64] at hx3 ⊢; omega
 have n0:0≤val8 w0 w1 w2 w3 w4 w5 w6 w7+q64 1*(a1*b0):=by simp only [q64]; omega
 have n1:0≤val8 w0 w1 w2 w3 w4 w5 w6 w7+q64 1*(a1*b0)+q64 2*(a1*b1):=by simp only [q64]; omega
 have n2:0≤val8 w0 w1 w2 w3 w4 w5 w6 w7+q64 1*(a1*b0)+q64 2*(a1*b1)+q64 3*(a1*b2):=by simp only [q64]; omega
 have n3:0≤val8 w0 w1 w2 w3 w4 w5 w6 w7+q64 1*(a1*b0)+q64 2*(a1*b1)+q64 3*(a1*b2)+q64 4*(a1*b3):=by simp only [q64]; omega
 clear hS hE0 hTb p0 p1 p2 p3 hv
 conv=>whnf
 refine .inl ⟨5,?_⟩
 conv=>whnf
 refine ⟨_,CALL.frame (b:=3) (blk:=⟨[u w0,u w1,u w2,u w3,u w4,u w5,u w6,u w7],t3,0,false⟩) rfl rfl (fun c=>rfl) rfl (gather1 hw ha1 hb0 t3 hx0 W0),⟨_,_,rfl,_,rfl,(gaR_ex n0 hx0 t3).choose_spec⟩,?_⟩
 rintro v m' ⟨rfl,kk,rfl,c0,c1,c2,c3,c4,c5,c6,c7,hc,ec,rfl⟩
 rw [← ec] at hx1 hx2 hx3 n1 n2 n3 hsum
 conv=>whnf
 refine ⟨_,CALL.frame (b:=3) (blk:=⟨[u c0,u c1,u c2,u c3,u c4,u c5,u c6,u c7],t3,0,false⟩) rfl rfl (fun c=>rfl) rfl (gather2 hc ha1 hb1 t3 hx1 W0),⟨_,_,rfl,_,rfl,(gaR_ex n1 hx1 t3).choose_spec⟩,?_⟩
 rintro v m' ⟨rfl,kk,rfl,d0,d1,d2,d3,d4,d5,d6,d7,hd,ed,rfl⟩
 rw [← ed] at hx2 hx3 n2 n3 hsum
 conv=>whnf
 refine ⟨_,CALL.frame (b:=3) (blk:=⟨[u d0,u d1,u d2,u d3,u d4,u d5,u d6,u d7],t3,0,false⟩) rfl rfl (fun c=>rfl) rfl (gather3 hd ha1 hb2 t3 hx2 W0),⟨_,_,rfl,_,rfl,(gaR_ex n2 hx2 t3).choose_spec⟩,?_⟩
 rintro v m' ⟨rfl,kk,rfl,f0,f1,f2,f3,f4,f5,f6,f7,hf,ef,rfl⟩
 rw [← ef] at hx3 n3 hsum
 conv=>whnf
 refine ⟨_,CALL.frame (b:=3) (blk:=⟨[u f0,u f1,u f2,u f3,u f4,u f5,u f6,u f7],t3,0,false⟩) rfl rfl (fun c=>rfl) rfl (gather4 hf ha1 hb3 t3 hx3 W0),⟨_,_,rfl,_,rfl,(gaR_ex n3 hx3 t3).choose_spec⟩,?_⟩
 rintro v m' ⟨rfl,kk,rfl,g0,g1,g2,g3,g4,g5,g6,g7,hg,eg,rfl⟩
 rw [← eg] at hsum
 conv=>whnf
 refine ⟨2,_,_,by decide,wk_of (by (repeat' apply And.intro)<;>first | trivial | rfl) (by (repeat' apply And.intro)<;>first | trivial | rfl) (Nat.le_refl _) (Nat.le_refl _),⟨2,g0,g1,g2,g3,g4,g5,g6,g7,t0,t1,t2,t3,by decide,by decide,hg,hsum.symm,rfl,rfl⟩⟩

set_option maxHeartbeats 1000000 in
theorem scmRow2 {a0 a1 a2 a3 b0 b1 b2 b3 w0 w1 w2 w3 w4 w5 w6 w7:Int} {t0 t1 t2 t3:Nat} (ha:InU a0∧InU a1∧InU a2∧InU a3) (hb:InU b0∧InU b1∧InU b2∧InU b3) (hw:In8 w0 w1 w2 w3 w4 w5 w6 w7) (hE0:val8 w0 w1 w2 w3 w4 w5 w6 w7=ap a0 a1 a2 a3 2*val b0 b1 b2 b3) (W0:World) (Q:Exit→Env→Mem→Prop) :
  swp (GG W0) (lp F_scalar_Mul 0) (fun x e1 m1=>match x with
   | .normal=>∃ j e2 m2,j<4-2∧Wk (scmMem a0 a1 a2 a3 b0 b1 b2 b3 t0 t1 t2 t3 w0 w1 w2 w3 w4 w5 w6 w7).length e1 m1 e2 m2∧ScmI a0 a1 a2 a3 b0 b1 b2 b3 j e2 m2
   | x=>Q x e1 m1) (scmEnv a0 a1 a2 a3 2) (scmMem a0 a1 a2 a3 b0 b1 b2 b3 t0 t1 t2 t3 w0 w1 w2 w3 w4 w5 w6 w7):=by
 have hS:=ap_succ a0 a1 a2 a3 (val b0 b1 b2 b3)
 have hTb:=ap_bound ha hb (i:=3) (by decide)
 obtain ⟨ha0,ha1,ha2,ha3⟩:=ha
 obtain ⟨hb0,hb1,hb2,hb3⟩:=hb
 have hv:=val8_nonneg hw
 have p0:=prod_le ha2 hb0
 have p1:=prod_le ha2 hb1
 have p2:=prod_le ha2 hb2
 have p3:=prod_le ha2 hb3
 have hsum:ap a0 a1 a2 a3 3*val b0 b1 b2 b3=val8 w0 w1 w2 w3 w4 w5 w6 w7+q64 2*(a2*b0)+q64 3*(a2*b1)+q64 4*(a2*b2)+q64 5*(a2*b3):=by
  rw [hS.2.2.2.1,hE0,mul_val a2]
  simp only [q64]
  omega
 have hx3:=hTb
 rw [hsum] at hx3
 have hx2:val8 w0 w1 w2 w3 w4 w5 w6 w7+q64 2*(a2*b0)+q64 3*(a2*b1)+q64 4*(a2*b2)<13407807929942597099574024998205846127479365820592393377723561443721764030073546976801874298166903427690031858186486050853753882811946569946433649006084096:=by simp only [q64] at hx3 ⊢; omega
 have hx1:val8 w0 w1 w2 w3 w4 w5 w6 w7+q64 2*(a2*b0)+q64 3*(a2*b1)<13407807929942597099574024998205846127479365820592393377723561443721764030073546976801874298166903427690031858186486050853753882811946569946433649006084096:=by simp only [q64] at hx3 ⊢; omega
 have hx0:val8 w0 w1 w2 w3 w4 w5 w6 w7+q64 2*(a2*b0)<13407807929942597099574024998205846127479365820592393377723561443721764030073546976801874298166903427690031858186486050853753882811946569946433649006084096:=by simp only [q64] at hx3 ⊢; omega
 have n0:0≤val8 w0 w1 w2 w3 w4 w5 w6 w7+q64 2*(a2*b0):=by simp only [q64]; omega
 have n1:0≤val8 w0 w1 w2 w3 w4 w5 w6 w7+q64 2*(a2*b0)+q64 3*(a2*b1):=by simp only [q64]; omega
 have n2:0≤val8 w0 w1 w2 w3 w4 w5 w6 w7+q64 2*(a2*b0)+q64 3*(a2*b1)+q64 4*(a2*b2):=by simp only [q64]; omega
 have n3:0≤val8 w0 w1 w2 w3 w4 w5 w6 w7+q64 2*(a2*b0)+q64 3*(a2*b1)+q64 4*(a2*b2)+q64 5*(a2*b3):=by simp only [q64]; omega
 clear hS hE0 hTb p0 p1 p2 p3 hv
 conv=>whnf
 refine .inl ⟨5,?_⟩
 conv=>whnf
 refine ⟨_,CALL.frame (b:=3) (blk:=⟨[u w0,u w1,u w2,u w3,u w4,u w5,u w6,u w7],t3,0,false⟩) rfl rfl (fun c=>rfl) rfl (gather2 hw ha2 hb0 t3 hx0 W0),⟨_,_,rfl,_,rfl,(gaR_ex n0 hx0 t3).choose_spec⟩,?_⟩
 rintro v m' ⟨rfl,kk,rfl,c0,c1,c2,c3,c4,c5,c6,c7,hc,ec,rfl⟩
 rw [← ec] at hx1 hx2 hx3 n1 n2 n3 hsum
 conv=>whnf
 refine ⟨_,CALL.frame (b:=3) (blk:=⟨[u c0,u c1,u c2,u c3,u c4,u c5,u c6,u c7],t3,0,false⟩) rfl rfl (fun c=>rfl) rfl (gather3 hc ha2 hb1 t3 hx1 W0),⟨_,_,rfl,_,rfl,(gaR_ex n1 hx1 t3).choose_spec⟩,?_⟩
 rintro v m' ⟨rfl,kk,rfl,d0,d1,d2,d3,d4,d5,d6,d7,hd,ed,rfl⟩
 rw [← ed] at hx2 hx3 n2 n3 hsum
 conv=>whnf
 refine ⟨_,CALL.frame (b:=3) (blk:=⟨[u d0,u d1,u d2,u d3,u d4,u d5,u d6,u d7],t3,0,false⟩) rfl rfl (fun c=>rfl) rfl (gather4 hd ha2 hb2 t3 hx2 W0),⟨_,_,rfl,_,rfl,(gaR_ex n2 hx2 t3).choose_spec⟩,?_⟩
 rintro v m' ⟨rfl,kk,rfl,f0,f1,f2,f3,f4,f5,f6,f7,hf,ef,rfl⟩
 rw [← ef] at hx3 n3 hsum
 conv=>whnf
 refine ⟨_,CALL.frame (b:=3) (blk:=⟨[u f0,u f1,u f2,u f3,u f4,u f5,u f6,u f7],t3,0,false⟩) rfl rfl (fun c=>rfl) rfl (gather5 hf ha2 hb3 t3 hx3 W0),⟨_,_,rfl,_,rfl,(gaR_ex n3 hx3 t3).choose_spec⟩,?_⟩
 rintro v m' ⟨rfl,kk,rfl,g0,g1,g2,g3,g4,g5,g6,g7,hg,eg,rfl⟩
 rw [← eg] at hsum
 conv=>whnf
 refine ⟨1,_,_,by decide,wk_of (by (repeat' apply And.intro)<;>first | trivial | rfl) (by (repeat' apply And.intro)<;>first | trivial | rfl) (Nat.le_refl _) (Nat.le_refl _),⟨3,g0,g1,g2,g3,g4,g5,g6,g7,t0,t1,t2,t3,by decide,by decide,hg,hsum.symm,rfl,rfl⟩⟩

set_option maxHeartbeats 1000000 in
theorem scmRow3 {a0 a1 a2 a3 b0 b1 b2 b3 w0 w1 w2 w3 w4 w5 w6 w7:Int} {t0 t1 t2 t3:Nat} (ha:InU a0∧InU a1∧InU a2∧InU a3) (hb:InU b0∧InU b1∧InU b2∧InU b3) (hw:In8 w0 w1 w2 w3 w4 w5 w6 w7) (hE0:val8 w0 w1 w2 w3 w4 w5 w6 w7=ap a0 a1 a2 a3 3*val b0 b1 b2 b3) (W0:World) (Q:Exit→Env→Mem→Prop) :
  swp (GG W0) (lp F_scalar_Mul 0) (fun x e1 m1=>match x with
   | .normal=>∃ j e2 m2,j<4-3∧Wk (scmMem a0 a1 a2 a3 b0 b1 b2 b3 t0 t1 t2 t3 w0 w1 w2 w3 w4 w5 w6 w7).length e1 m1 e2 m2∧ScmI a0 a1 a2 a3 b0 b1 b2 b3 j e2 m2
   | x=>Q x e1 m1) (scmEnv a0 a1 a2 a3 3) (scmMem a0 a1 a2 a3 b0 b1 b2 b3 t0 t1 t2 t3 w0 w1 w2 w3 w4 w5 w6 w7):=by
 have hS:=ap_succ a0 a1 a2 a3 (val b0 b1 b2 b3)
 have hTb:=ap_bound ha hb (i:=4) (by decide)
 obtain ⟨ha0,ha1,ha2,ha3⟩:=ha
 obtain ⟨hb0,hb1,hb2,hb3⟩:=hb
 have hv:=val8_nonneg hw
 have p0:=prod_le ha3 hb0
 have p1:=prod_le ha3 hb1
 have p2:=prod_le ha3 hb2
 have p3:=prod_le ha3 hb3
 have hsum:ap a0 a1 a2 a3 4*val b0 b1 b2 b3=val8 w0 w1 w2 w3 w4 w5 w6 w7+q64 3*(a3*b0)+q64 4*(a3*b1)+q64 5*(a3*b2)+q64 6*(a3*b3):=by
  rw [hS.2.2.2.2,hE0,mul_val a3]
  simp only [q64]
  omega
 have hx3:=hTb
 rw [hsum] at hx3
 have hx2:val8 w0 w1 w2 w3 w4 w5 w6 w7+q64 3*(a3*b0)+q64 4*(a3*b1)+q64 5*(a3*b2)<13407807929942597099574024998205846127479365820592393377723561443721764030073546976801874298166903427690031858186486050853753882811946569946433649006084096:=by simp only [q64] at hx3 ⊢; omega
 have hx1:val8 w0 w1 w2 w3 w4 w5 w6 w7+q64 3*(a3*b0)+q64 4*(a3*b1)<13407807929942597099574024998205846127479365820592393377723561443721764030073546976801874298166903427690031858186486050853753882811946569946433649006084096:=by simp only [q64] at hx3 ⊢; omega
 have hx0:val8 w0 w1 w2 w3 w4 w5 w6 w7+q64 3*(a3*b0)<13407807929942597099574024998205846127479365820592393377723561443721764030073546976801874298166903427690031858186486050853753882811946569946433649006084096:=by simp only [q64] at hx3 ⊢; omega
 have n0:0≤val8 w0 w1 w2 w3 w4 w5 w6 w7+q64 3*(a3*b0):=by simp only [q64]; omega
 have n1:0≤val8 w0 w1 w2 w3 w4 w5 w6 w7+q64 3*(a3*b0)+q64 4*(a3*b1):=by simp only [q64]; omega
 have n2:0≤val8 w0 w1 w2 w3 w4 w5 w6 w7+q64 3*(a3*b0)+q64 4*(a3*b1)+q64 5*(a3*b2):=by simp only [q64]; omega
 have n3:0≤val8 w0 w1 w2 w3 w4 w5 w6 w7+q64 3*(a3*b0)+q64 4*(a3*b1)+q64 5*(a3*b2)+q64 6*(a3*b3):=by simp only [q64]; omega
 clear hS hE0 hTb p0 p1 p2 p3 hv
 conv=>whnf
 refine .inl ⟨5,?_⟩
 conv=>whnf
 refine ⟨_,CALL.frame (b:=3) (blk:=⟨[u w0,u w1,u w2,u w3,u w4,u w5,u w6,u w7],t3,0,false⟩) rfl rfl (fun c=>rfl) rfl (gather3 hw ha3 hb0 t3 hx0 W0),⟨_,_,rfl,_,rfl,(gaR_ex n0 hx0 t3).choose_spec⟩,?_⟩
 rintro v m' ⟨rfl,kk,rfl,c0,c1,c2,c3,c4,c5,c6,c7,hc,ec,rfl⟩
 rw [← ec] at hx1 hx2 hx3 n1 n2 n3 hsum
 conv=>whnf
 refine ⟨_,CALL.frame (b:=3) (blk:=⟨[u c0,u c1,u c2,u c3,u c4,u c5,u c6,u c7],t3,0,false⟩) rfl rfl (fun c=>rfl) rfl (gather4 hc ha3 hb1 t3 hx1 W0),⟨_,_,rfl,_,rfl,(gaR_ex n1 hx1 t3).choose_spec⟩,?_⟩
 rintro v m' ⟨rfl,kk,rfl,d0,d1,d2,d3,d4,d5,d6,d7,hd,ed,rfl⟩
 rw [← ed] at hx2 hx3 n2 n3 hsum
 conv=>whnf
 refine ⟨_,CALL.frame (b:=3) (blk:=⟨[u d0,u d1,u d2,u d3,u d4,u d5,u d6,u d7],t3,0,false⟩) rfl rfl (fun c=>rfl) rfl (gather5 hd ha3 hb2 t3 hx2 W0),⟨_,_,rfl,_,rfl,(gaR_ex n2 hx2 t3).choose_spec⟩,?_⟩
 rintro v m' ⟨rfl,kk,rfl,f0,f1,f2,f3,f4,f5,f6,f7,hf,ef,rfl⟩
 rw [← ef] at hx3 n3 hsum
 conv=>whnf
 refine ⟨_,CALL.frame (b:=3) (blk:=⟨[u f0,u f1,u f2,u f3,u f4,u f5,u f6,u f7],t3,0,false⟩) rfl rfl (fun c=>rfl) rfl (gather6 hf ha3 hb3 t3 hx3 W0),⟨_,_,rfl,_,rfl,(gaR_ex n3 hx3 t3).choose_spec⟩,?_⟩
 rintro v m' ⟨rfl,kk,rfl,g0,g1,g2,g3,g4,g5,g6,g7,hg,eg,rfl⟩
 rw [← eg] at hsum
 conv=>whnf
 refine ⟨0,_,_,by decide,wk_of (by (repeat' apply And.intro)<;>first | trivial | rfl) (by (repeat' apply And.intro)<;>first | trivial | rfl) (Nat.le_refl _) (Nat.le_refl _),⟨4,g0,g1,g2,g3,g4,g5,g6,g7,t0,t1,t2,t3,by decide,by decide,hg,hsum.symm,rfl,rfl⟩⟩

set_option maxHeartbeats 1000000 in
theorem scMul_fn {x y:Int} (hx:InW x) (hy:InW y):Fn PG f_scalar_Mul [W x,W y] (W (x*y%nn)):=by
 obtain ⟨a0,a1,a2,a3,ha0,ha1,ha2,ha3,rfl⟩:=split4 hx
 obtain ⟨b0,b1,b2,b3,hb0,hb1,hb2,hb3,rfl⟩:=split4 hy
 simp only [W,words_val ha0 ha1 ha2 ha3,words_val hb0 hb1 hb2 hb3]
 have z0:InU 0:=⟨by omega,by omega⟩
 clear hx hy
 refine fn_go h_scalar_Mul rfl (by kernel_rfl) (fun _=>by kernel_rfl) rfl rfl fun W0=>?_
 conv=>whnf
 refine .inr (loop_inv (gOk W0) (ScmI a0 a1 a2 a3 b0 b1 b2 b3) ?_ ?_)
 ·intro k e' m' hI
  obtain ⟨i,w0,w1,w2,w3,w4,w5,w6,w7,t0,t1,t2,t3,hi4,rfl,hw,hE,rfl,rfl⟩:=hI
  obtain rfl | rfl | rfl | rfl | rfl:i=0∨i=1∨i=2∨i=3∨i=4:=by omega
  ·exact scmRow0 ⟨ha0,ha1,ha2,ha3⟩ ⟨hb0,hb1,hb2,hb3⟩ hw hE W0 _
  ·exact scmRow1 ⟨ha0,ha1,ha2,ha3⟩ ⟨hb0,hb1,hb2,hb3⟩ hw hE W0 _
  ·exact scmRow2 ⟨ha0,ha1,ha2,ha3⟩ ⟨hb0,hb1,hb2,hb3⟩ hw hE W0 _
  ·exact scmRow3 ⟨ha0,ha1,ha2,ha3⟩ ⟨hb0,hb1,hb2,hb3⟩ hw hE W0 _
  ·conv=>whnf
   have hf:=scFolded_fn hw
   rw [hE] at hf
   refine ⟨_,hf.2 _ _,rfl,?_⟩
   conv=>whnf
   rfl
 ·refine ⟨4,_,_,wk_of (by (repeat' apply And.intro)<;>first | trivial | rfl) (by (repeat' apply And.intro)<;>first | trivial | rfl) (Nat.le_refl _) (Nat.le_refl _),⟨0,0,0,0,0,0,0,0,0,_,_,_,_,by decide,by decide,⟨z0,z0,z0,z0,z0,z0,z0,z0⟩,?_,rfl,rfl⟩⟩
  rw [(ap_succ a0 a1 a2 a3 _).1]
  rfl

theorem scAdd_fn {x y:Int} (hx:InW x) (hy:InW y):Fn PG f_scalar_Add [W x,W y] (W ((x+y)%nn)):=by
 obtain ⟨a0,a1,a2,a3,h0,h1,h2,h3,rfl⟩:=split4 hx
 obtain ⟨b0,b1,b2,b3,g0,g1,g2,g3,rfl⟩:=split4 hy
 simp only [W,words_val h0 h1 h2 h3,words_val g0 g1 g2 g3]
 have z0:InU 0:=⟨by omega,by omega⟩
 refine fn_go h_scalar_Add rfl (by kernel_rfl) (fun _=>by kernel_rfl) rfl rfl fun W0=>?_
 conv=>whnf
 refine .inl ⟨5,?_⟩
 conv=>whnf
 refine ⟨by omega,?_⟩
 intro s0 c0 e0 l0 u0 p0
 conv=>whnf
 refine ⟨by omega,?_⟩
 intro s1 c1 e1 l1 u1 p1
 conv=>whnf
 refine ⟨by omega,?_⟩
 intro s2 c2 e2 l2 u2 p2
 conv=>whnf
 refine ⟨by omega,?_⟩
 intro s3 c3 e3 l3 u3 p3
 conv=>whnf
 have hs:val a0 a1 a2 a3+val b0 b1 b2 b3=val8 s0 s1 s2 s3 c3 0 0 0:=by unfold val8 val; omega
 have hf:=scFolded_fn (w0:=s0) (w1:=s1) (w2:=s2) (w3:=s3) (w4:=c3) (w5:=0) (w6:=0) (w7:=0) ⟨⟨l0,u0⟩,⟨l1,u1⟩,⟨l2,u2⟩,⟨l3,u3⟩,⟨by omega,by omega⟩,z0,z0,z0⟩
 refine ⟨_,hf.2 _ _,rfl,?_⟩
 conv=>whnf
 rw [hs]
 rfl

theorem inN (z:Int):InW (z%nn):=by unfold nn; exact ⟨by omega,by omega⟩

theorem scNeg_fn {x:Int} (hx:InW x):Fn PG f_scalar_Neg [W x] (W (-x%nn)):=by
 refine fn_go h_scalar_Neg rfl (by kernel_rfl) (fun _=>by kernel_rfl) rfl rfl fun W0=>?_
 have hi:=inN x
 have hmin:=scMinus_fn (x:=nn) (y:=x%nn) (by decide) hi
 have e:(nn-x%nn)%115792089237316195423570985008687907853269984665640564039457584007913129639936=nn-x%nn:=by unfold nn; omega
 rw [e] at hmin
 have hN2:=scNorm_fn (x:=nn-x%nn) (by unfold nn; exact ⟨by omega,by omega⟩)
 have e2:(nn-x%nn)%nn = -x%nn:=by
  have:nn-x%nn = -x+nn*(x/nn+1):=by
   rw [Int.mul_add,Int.mul_one,Int.emod_def]
   omega
  rw [this,Int.add_mul_emod_self_left]
 rw [e2] at hN2
 conv=>whnf
 refine ⟨_,scOrder_fn.2 _ _,rfl,?_⟩
 conv=>whnf
 refine ⟨_,(scNorm_fn hx).2 _ _,rfl,?_⟩
 conv=>whnf
 refine ⟨_,hmin.2 _ _,rfl,?_⟩
 conv=>whnf
 refine ⟨_,hN2.2 _ _,rfl,?_⟩
 conv=>whnf
 rfl

end Go.Ev

import Derived.Test.YthmdbgdagnhheaaGreatDoorFeA
import Derived.Test.YthmdbgdagnhheaaGreatDoorRfA
import Derived.Test.YthmdbgdagnhheaaGreatDoorHs
import Derived.Test.YthmdbgdagnhheaaGreatDoorLaw
namespace Go.Hv
open Go.Ev

theorem round_cut {G:Cfg} {b:Code} {d:List Nat} {Q:Exit→Env→HM→Prop} {k:Nat} {e:Env} {m:HM}
  (h:∀ K:Exit→Env→HM→Prop,(∀ e' m',restr (fun e''=>loopNC (swpC G b) d Q k e'' m') e' d []→K .normal e' m')→(∀ i e' m',Q (.exit i) e' m'→K (.exit i) e' m')→(∀ e' m',Q .ret e' m'→K .ret e' m')→swpC G b K e m) :
  loopNC (swpC G b) d Q (k+1) e m:=by
 refine h _ (fun _ _ h=>h) (fun _ _ _ h=>h) (fun _ _ h=>h)

def restrE (e:Env):List Nat→Env→Env
 | [],acc=>acc
 | t::ts,acc=>match get e t with
  | some v=>restrE e ts ((t,v)::acc)
  | none=>restrE e ts acc

theorem restr_to {K:Env→Prop} {e:Env}:∀ {l:List Nat} {acc:Env},K (restrE e l acc)→restr K e l acc
 | [],_,h=>h
 | t::ts,acc,h=>by
  simp only [restrE] at h
  simp only [restr]
  split at h
  ·rename_i hh; simp only [hh]; exact restr_to h
  ·rename_i hh; simp only [hh]; exact restr_to h

theorem round_next {b:(Exit→Env→HM→Prop)→Env→HM→Prop} {d:List Nat} {Q:Exit→Env→HM→Prop} {k:Nat} {e':Env} {m':HM} (E:Env) (M:HM) (he:restrE e' d []=E) (hm:m'=M) (h:loopNC b d Q k E M) :
  restr (fun e''=>loopNC b d Q k e'' m') e' d []:=by
 subst he hm
 exact restr_to h

def bq (l:Int) (k:Nat):Sc:=.int .u8 (IntKind.u8.wrap (l.fdiv (2^k)))

def bcs1 (y:Int):List Sc:=[Sc.int .u8 0,Sc.int .u8 0,Sc.int .u8 0,Sc.int .u8 0,Sc.int .u8 0,Sc.int .u8 0,Sc.int .u8 0,Sc.int .u8 0,Sc.int .u8 0,Sc.int .u8 0,Sc.int .u8 0,Sc.int .u8 0,Sc.int .u8 0,Sc.int .u8 0,Sc.int .u8 0,Sc.int .u8 0,Sc.int .u8 0,Sc.int .u8 0,Sc.int .u8 0,Sc.int .u8 0,Sc.int .u8 0,Sc.int .u8 0,Sc.int .u8 0,Sc.int .u8 0,bq (y%18446744073709551616) 56,bq (y%18446744073709551616) 48,bq (y%18446744073709551616) 40,bq (y%18446744073709551616) 32,bq (y%18446744073709551616) 24,bq (y%18446744073709551616) 16,bq (y%18446744073709551616) 8,bq (y%18446744073709551616) 0]
def bcs2 (y:Int):List Sc:=[Sc.int .u8 0,Sc.int .u8 0,Sc.int .u8 0,Sc.int .u8 0,Sc.int .u8 0,Sc.int .u8 0,Sc.int .u8 0,Sc.int .u8 0,Sc.int .u8 0,Sc.int .u8 0,Sc.int .u8 0,Sc.int .u8 0,Sc.int .u8 0,Sc.int .u8 0,Sc.int .u8 0,Sc.int .u8 0,bq (y/18446744073709551616%18446744073709551616) 56,bq (y/18446744073709551616%18446744073709551616) 48,bq (y/18446744073709551616%18446744073709551616) 40,bq (y/18446744073709551616%18446744073709551616) 32,bq (y/18446744073709551616%18446744073709551616) 24,bq (y/18446744073709551616%18446744073709551616) 16,bq (y/18446744073709551616%18446744073709551616) 8,bq (y/18446744073709551616%18446744073709551616) 0,bq (y%18446744073709551616) 56,bq (y%18446744073709551616) 48,bq (y%18446744073709551616) 40,bq (y%18446744073709551616) 32,bq (y%18446744073709551616) 24,bq (y%18446744073709551616) 16,bq (y%18446744073709551616) 8,bq (y%18446744073709551616) 0]
def bcs3 (y:Int):List Sc:=[Sc.int .u8 0,Sc.int .u8 0,Sc.int .u8 0,Sc.int .u8 0,Sc.int .u8 0,Sc.int .u8 0,Sc.int .u8 0,Sc.int .u8 0,bq (y/340282366920938463463374607431768211456%18446744073709551616) 56,bq (y/340282366920938463463374607431768211456%18446744073709551616) 48,bq (y/340282366920938463463374607431768211456%18446744073709551616) 40,bq (y/340282366920938463463374607431768211456%18446744073709551616) 32,bq (y/340282366920938463463374607431768211456%18446744073709551616) 24,bq (y/340282366920938463463374607431768211456%18446744073709551616) 16,bq (y/340282366920938463463374607431768211456%18446744073709551616) 8,bq (y/340282366920938463463374607431768211456%18446744073709551616) 0,bq (y/18446744073709551616%18446744073709551616) 56,bq (y/18446744073709551616%18446744073709551616) 48,bq (y/18446744073709551616%18446744073709551616) 40,bq (y/18446744073709551616%18446744073709551616) 32,bq (y/18446744073709551616%18446744073709551616) 24,bq (y/18446744073709551616%18446744073709551616) 16,bq (y/18446744073709551616%18446744073709551616) 8,bq (y/18446744073709551616%18446744073709551616) 0,bq (y%18446744073709551616) 56,bq (y%18446744073709551616) 48,bq (y%18446744073709551616) 40,bq (y%18446744073709551616) 32,bq (y%18446744073709551616) 24,bq (y%18446744073709551616) 16,bq (y%18446744073709551616) 8,bq (y%18446744073709551616) 0]
def bcs4 (y:Int):List Sc:=[bq (y/6277101735386680763835789423207666416102355444464034512896%18446744073709551616) 56,bq (y/6277101735386680763835789423207666416102355444464034512896%18446744073709551616) 48,bq (y/6277101735386680763835789423207666416102355444464034512896%18446744073709551616) 40,bq (y/6277101735386680763835789423207666416102355444464034512896%18446744073709551616) 32,bq (y/6277101735386680763835789423207666416102355444464034512896%18446744073709551616) 24,bq (y/6277101735386680763835789423207666416102355444464034512896%18446744073709551616) 16,bq (y/6277101735386680763835789423207666416102355444464034512896%18446744073709551616) 8,bq (y/6277101735386680763835789423207666416102355444464034512896%18446744073709551616) 0,bq (y/340282366920938463463374607431768211456%18446744073709551616) 56,bq (y/340282366920938463463374607431768211456%18446744073709551616) 48,bq (y/340282366920938463463374607431768211456%18446744073709551616) 40,bq (y/340282366920938463463374607431768211456%18446744073709551616) 32,bq (y/340282366920938463463374607431768211456%18446744073709551616) 24,bq (y/340282366920938463463374607431768211456%18446744073709551616) 16,bq (y/340282366920938463463374607431768211456%18446744073709551616) 8,bq (y/340282366920938463463374607431768211456%18446744073709551616) 0,bq (y/18446744073709551616%18446744073709551616) 56,bq (y/18446744073709551616%18446744073709551616) 48,bq (y/18446744073709551616%18446744073709551616) 40,bq (y/18446744073709551616%18446744073709551616) 32,bq (y/18446744073709551616%18446744073709551616) 24,bq (y/18446744073709551616%18446744073709551616) 16,bq (y/18446744073709551616%18446744073709551616) 8,bq (y/18446744073709551616%18446744073709551616) 0,bq (y%18446744073709551616) 56,bq (y%18446744073709551616) 48,bq (y%18446744073709551616) 40,bq (y%18446744073709551616) 32,bq (y%18446744073709551616) 24,bq (y%18446744073709551616) 16,bq (y%18446744073709551616) 8,bq (y%18446744073709551616) 0]

end Go.Hv

namespace Go.Hv
open Go.Ev

def orU (a b:Int):Int:=IntKind.u64.wrap (BitVec.ofInt IntKind.u64.bits a ||| BitVec.ofInt IntKind.u64.bits b).toNat
def shB (l:Int) (k:Nat):Int:=IntKind.u8.wrap (l.fdiv (2^k))%18446744073709551616*2^k%18446744073709551616

theorem orU_add {a b:Int} (k:Nat) (ha:0≤a) (ha2:a<2^k) (hb:0≤b) (hs:a+2^k*b<18446744073709551616):orU a (2^k*b)=a+2^k*b:=by
 obtain ⟨a,rfl⟩:=Int.eq_ofNat_of_zero_le ha
 obtain ⟨b,rfl⟩:=Int.eq_ofNat_of_zero_le hb
 have ha3:a<2^k:=by exact_mod_cast ha2
 have e:(2^k*(b:Int))=((2^k*b:Nat):Int):=by rw [Int.natCast_mul,Int.natCast_pow]; rfl
 have hs2:a+2^k*b<18446744073709551616:=by rw [e] at hs; generalize 2^k*b=t at *; omega
 unfold orU
 change IntKind.u64.wrap (BitVec.ofInt 64 _ ||| BitVec.ofInt 64 _).toNat=_
 rw [e,BitVec.ofInt_natCast,BitVec.ofInt_natCast]
 simp only [BitVec.toNat_or,BitVec.toNat_ofNat]
 rw [Nat.mod_eq_of_lt (by generalize 2^k*b=t at *; omega),Nat.mod_eq_of_lt (by generalize 2^k*b=t at *; omega),Nat.or_comm,← Nat.two_pow_add_eq_or_of_lt ha3]
 simp only [IntKind.wrap,IntKind.signed,IntKind.bits]
 generalize 2^k*b=t at *
 simp
 omega
def ow (l:Int):Int:=(orU (orU (orU (orU (orU (orU (orU (orU 0 (shB l 0)) (shB l 8)) (shB l 16)) (shB l 24)) (shB l 32)) (shB l 40)) (shB l 48)) (shB l 56))

def bcsL (l0 l1 l2 l3:Int):List Sc:=[bq l3 56,bq l3 48,bq l3 40,bq l3 32,bq l3 24,bq l3 16,bq l3 8,bq l3 0,bq l2 56,bq l2 48,bq l2 40,bq l2 32,bq l2 24,bq l2 16,bq l2 8,bq l2 0,bq l1 56,bq l1 48,bq l1 40,bq l1 32,bq l1 24,bq l1 16,bq l1 8,bq l1 0,bq l0 56,bq l0 48,bq l0 40,bq l0 32,bq l0 24,bq l0 16,bq l0 8,bq l0 0]

theorem shB_eq' {l:Int} (k:Nat) (P Q:Int) (hP:(2:Int)^k=P) (h1:0<P) (hQ:P*Q=18446744073709551616) (h256:256≤Q):shB l k=2^k*(l/P%256):=by
 unfold shB
 rw [hP,Int.fdiv_eq_ediv_of_nonneg _ (by omega)]
 simp only [IntKind.wrap,IntKind.signed,IntKind.bits]
 simp
 generalize l/P=t
 have a1:0≤t%256:=by omega
 have a2:t%256<256:=by omega
 generalize t%256=s at *
 have e1:s%18446744073709551616=s:=by omega
 rw [e1,Int.mul_comm]
 refine Int.emod_eq_of_lt (Int.mul_nonneg (by omega) a1) ?_
 rw [← hQ]
 exact Int.mul_lt_mul_of_pos_left (by omega) h1

theorem or_step {l:Int} (k:Nat) (P Q R:Int) (hP:(2:Int)^k=P) (h1:0<P) (hQ:P*Q=18446744073709551616) (h256:256≤Q) (hR:l%P+P*(l/P%256)=l%R) (hR1:0<R) (hR2:R≤18446744073709551616) :
  orU (l%P) (shB l k)=l%R:=by
 rw [shB_eq' k P Q hP h1 hQ h256]
 have hlt:=Int.emod_lt_of_pos l hR1
 rw [orU_add k (Int.emod_nonneg _ (by omega)) (by rw [hP]; exact Int.emod_lt_of_pos _ h1) (Int.emod_nonneg _ (by omega)) (by rw [hP,hR]; omega),hP,hR]

theorem ow_eq {l:Int} (hl:InU l):ow l=l:=by
 unfold ow
 have e0:(0:Int)=l%1:=by omega
 have z:l%18446744073709551616=l:=by omega
 rw [e0,or_step 0 1 18446744073709551616 256 rfl (by omega) (by omega) (by omega) (by omega) (by omega) (by omega)]
 rw [or_step 8 256 72057594037927936 65536 rfl (by omega) (by omega) (by omega) (by omega) (by omega) (by omega)]
 rw [or_step 16 65536 281474976710656 16777216 rfl (by omega) (by omega) (by omega) (by omega) (by omega) (by omega)]
 rw [or_step 24 16777216 1099511627776 4294967296 rfl (by omega) (by omega) (by omega) (by omega) (by omega) (by omega)]
 rw [or_step 32 4294967296 4294967296 1099511627776 rfl (by omega) (by omega) (by omega) (by omega) (by omega) (by omega)]
 rw [or_step 40 1099511627776 16777216 281474976710656 rfl (by omega) (by omega) (by omega) (by omega) (by omega) (by omega)]
 rw [or_step 48 281474976710656 65536 72057594037927936 rfl (by omega) (by omega) (by omega) (by omega) (by omega) (by omega)]
 rw [or_step 56 72057594037927936 256 18446744073709551616 rfl (by omega) (by omega) (by omega) (by omega) (by omega) (by omega)]
 exact z

def readP (y:Int):Int×Bool:=if y%pp=y then (y,true) else (0,false)

set_option maxRecDepth 100000 in
theorem feRead_fn {l0 l1 l2 l3:Int} (h0:InU l0) (h1:InU l1) (h2:InU l2) (h3:InU l3):Ev.Fn PG f_fe_Read [.agg (bcsL l0 l1 l2 l3)] (.tup [.agg (words (readP (val l0 l1 l2 l3)).1),.one (.bool (readP (val l0 l1 l2 l3)).2)]):=by
 refine fn_startH (fun _=>none) h_fe_Read rfl (by kernel_rfl) (fun _=>by kernel_rfl) rfl (by kernel_rfl) fun A=>?_
 have hy:InW (val l0 l1 l2 l3):=by unfold val; exact ⟨by omega,by omega⟩
 have n1:=norm_fn hy
 refine swp_cut fun K hK _ _=>?_
 conv=>whnf
 refine hK _ _ (swp_cut fun K hK _ _=>?_)
 conv=>whnf
 refine hK _ _ (swp_cut fun K hK _ _=>?_)
 conv=>whnf
 refine .inl ⟨5,round_cut fun K1 hK1 hX1 _=>?_⟩
 conv=>whnf
 refine .inl ⟨9,?_⟩
 conv=>whnf
 refine hK1 _ _ ?_
 clear hK1 hX1
 refine round_next [(7,.one (.int .i64 1)),(4,.one (.ptr (some (.loc 2 0)))),(3,.one (.bool false)),(2,.one (.ptr (some (.loc 1 0)))),(1,.one (.ptr (some (.loc 0 0)))),(0,.agg (bcsL l0 l1 l2 l3))] ⟨[some ⟨bcsL l0 l1 l2 l3,t_a32_uint8,0,false⟩,some ⟨[u 0,u 0,u 0,u 0],t_api_Fe,0,false⟩,some ⟨[u (ow l0),u 0,u 0,u 0],t_api_Fe,0,false⟩],M0.N⟩ rfl rfl ?_
 generalize hw0:ow l0=w0
 refine round_cut fun K1 hK1 hX1 _=>?_
 conv=>whnf
 refine .inl ⟨9,?_⟩
 conv=>whnf
 refine hK1 _ _ ?_
 clear hK1 hX1
 refine round_next [(7,.one (.int .i64 2)),(4,.one (.ptr (some (.loc 2 0)))),(3,.one (.bool false)),(2,.one (.ptr (some (.loc 1 0)))),(1,.one (.ptr (some (.loc 0 0)))),(0,.agg (bcsL l0 l1 l2 l3))] ⟨[some ⟨bcsL l0 l1 l2 l3,t_a32_uint8,0,false⟩,some ⟨[u 0,u 0,u 0,u 0],t_api_Fe,0,false⟩,some ⟨[u w0,u (ow l1),u 0,u 0],t_api_Fe,0,false⟩],M0.N⟩ rfl rfl ?_
 generalize hw1:ow l1=w1
 refine round_cut fun K1 hK1 hX1 _=>?_
 conv=>whnf
 refine .inl ⟨9,?_⟩
 conv=>whnf
 refine hK1 _ _ ?_
 clear hK1 hX1
 refine round_next [(7,.one (.int .i64 3)),(4,.one (.ptr (some (.loc 2 0)))),(3,.one (.bool false)),(2,.one (.ptr (some (.loc 1 0)))),(1,.one (.ptr (some (.loc 0 0)))),(0,.agg (bcsL l0 l1 l2 l3))] ⟨[some ⟨bcsL l0 l1 l2 l3,t_a32_uint8,0,false⟩,some ⟨[u 0,u 0,u 0,u 0],t_api_Fe,0,false⟩,some ⟨[u w0,u w1,u (ow l2),u 0],t_api_Fe,0,false⟩],M0.N⟩ rfl rfl ?_
 generalize hw2:ow l2=w2
 refine round_cut fun K1 hK1 hX1 _=>?_
 conv=>whnf
 refine .inl ⟨9,?_⟩
 conv=>whnf
 refine hK1 _ _ ?_
 clear hK1 hX1
 refine round_next [(7,.one (.int .i64 4)),(4,.one (.ptr (some (.loc 2 0)))),(3,.one (.bool false)),(2,.one (.ptr (some (.loc 1 0)))),(1,.one (.ptr (some (.loc 0 0)))),(0,.agg (bcsL l0 l1 l2 l3))] ⟨[some ⟨bcsL l0 l1 l2 l3,t_a32_uint8,0,false⟩,some ⟨[u 0,u 0,u 0,u 0],t_api_Fe,0,false⟩,some ⟨[u w0,u w1,u w2,u (ow l3)],t_api_Fe,0,false⟩],M0.N⟩ rfl rfl ?_
 generalize hw3:ow l3=w3
 rw [ow_eq h0] at hw0
 rw [ow_eq h1] at hw1
 rw [ow_eq h2] at hw2
 rw [ow_eq h3] at hw3
 subst hw0 hw1 hw2 hw3
 rw [← words_val h0 h1 h2 h3]
 generalize val l0 l1 l2 l3=y at *
 refine round_cut fun K1 hK1 hX1 _=>?_
 conv=>whnf
 refine hX1 _ _ _ ?_
 conv=>whnf
 refine hK _ _ ?_
 refine swp_cut fun K hK hRr _=>?_
 conv=>whnf
 refine ⟨_,n1,rfl,?_⟩
 conv=>whnf
 rw [weq (show InW (y%pp) from ⟨by unfold pp; omega,by unfold pp; omega⟩) hy]
 by_cases hr:y%pp=y
 ·have hd:decide (y%pp=y)=true:=decide_eq_true hr
  have hp:readP y=(y,true):=if_pos hr
  rw [hd]
  conv=>whnf
  refine hK _ _ ?_
  conv=>whnf
  intro c N2 _ _
  rw [hp]
  rfl
 ·have hd:decide (y%pp=y)=false:=decide_eq_false hr
  have hp:readP y=(0,false):=if_neg hr
  rw [hd]
  conv=>whnf
  refine hRr _ _ ?_
  conv=>whnf
  intro c N2 _ _
  rw [hp]
  rfl

end Go.Hv

namespace Go.Hv
open Go.Ev

set_option maxRecDepth 100000 in
theorem feBytes_fn {x:Int} (hx:InW x):Ev.Fn PG f_fe_Bytes [W x] (.agg (bcs4 (x%pp))):=by
 refine fn_startH (fun _=>none) h_fe_Bytes rfl (by kernel_rfl) (fun _=>by kernel_rfl) rfl rfl fun A=>?_
 have n1:=norm_fn hx
 generalize x%pp=y at *
 refine swp_cut fun K hK _ _=>?_
 conv=>whnf
 refine hK _ _ (swp_cut fun K hK _ _=>?_)
 conv=>whnf
 refine hK _ _ (swp_cut fun K hK _ hR0=>?_)
 conv=>whnf
 refine ⟨_,n1,rfl,?_⟩
 conv=>whnf
 refine .inl ⟨5,round_cut fun K1 hK1 hX1 _=>?_⟩
 conv=>whnf
 refine .inl ⟨9,?_⟩
 conv=>whnf
 refine hK1 _ _ ?_
 clear hK1 hX1
 refine round_next [(9,.one (.int .i64 1)),(8,W y),(7,W x),(3,.one (.ptr (some (.loc 2 0)))),(2,.one (.ptr (some (.loc 1 0)))),(1,.one (.ptr (some (.loc 0 0)))),(0,W x)] ⟨[some ⟨words x,t_api_Fe,0,false⟩,some ⟨List.replicate 32 (Sc.int IntKind.u8 0),t_a32_uint8,0,false⟩,some ⟨bcs1 y,t_a32_uint8,0,false⟩],_⟩ rfl rfl ?_
 refine round_cut fun K1 hK1 hX1 _=>?_
 conv=>whnf
 refine .inl ⟨9,?_⟩
 conv=>whnf
 refine hK1 _ _ ?_
 clear hK1 hX1
 refine round_next [(9,.one (.int .i64 2)),(8,W y),(7,W x),(3,.one (.ptr (some (.loc 2 0)))),(2,.one (.ptr (some (.loc 1 0)))),(1,.one (.ptr (some (.loc 0 0)))),(0,W x)] ⟨[some ⟨words x,t_api_Fe,0,false⟩,some ⟨List.replicate 32 (Sc.int IntKind.u8 0),t_a32_uint8,0,false⟩,some ⟨bcs2 y,t_a32_uint8,0,false⟩],_⟩ rfl rfl ?_
 refine round_cut fun K1 hK1 hX1 _=>?_
 conv=>whnf
 refine .inl ⟨9,?_⟩
 conv=>whnf
 refine hK1 _ _ ?_
 clear hK1 hX1
 refine round_next [(9,.one (.int .i64 3)),(8,W y),(7,W x),(3,.one (.ptr (some (.loc 2 0)))),(2,.one (.ptr (some (.loc 1 0)))),(1,.one (.ptr (some (.loc 0 0)))),(0,W x)] ⟨[some ⟨words x,t_api_Fe,0,false⟩,some ⟨List.replicate 32 (Sc.int IntKind.u8 0),t_a32_uint8,0,false⟩,some ⟨bcs3 y,t_a32_uint8,0,false⟩],_⟩ rfl rfl ?_
 refine round_cut fun K1 hK1 hX1 _=>?_
 conv=>whnf
 refine .inl ⟨9,?_⟩
 conv=>whnf
 refine hK1 _ _ ?_
 clear hK1 hX1
 refine round_next [(9,.one (.int .i64 4)),(8,W y),(7,W x),(3,.one (.ptr (some (.loc 2 0)))),(2,.one (.ptr (some (.loc 1 0)))),(1,.one (.ptr (some (.loc 0 0)))),(0,W x)] ⟨[some ⟨words x,t_api_Fe,0,false⟩,some ⟨List.replicate 32 (Sc.int IntKind.u8 0),t_a32_uint8,0,false⟩,some ⟨bcs4 y,t_a32_uint8,0,false⟩],_⟩ rfl rfl ?_
 refine round_cut fun K1 hK1 hX1 _=>?_
 conv=>whnf
 refine hX1 _ _ _ ?_
 conv=>whnf
 refine hK _ _ ?_
 conv=>whnf
 intro c N2 _ _
 rfl

end Go.Hv

namespace Go.Hv
open Go.Ev

theorem bq_eq {l b:Int} (k:Nat) (P:Int) (hP:(2:Int)^k=P) (h1:0<P) (h:l/P%256=b):bq l k=.int .u8 b:=by
 unfold bq
 rw [hP,Int.fdiv_eq_ediv_of_nonneg _ (by omega)]
 simp only [IntKind.wrap,IntKind.signed,IntKind.bits]
 subst h
 rfl

theorem limb_of {b0 b1 b2 b3 b4 b5 b6 b7:Int} (h0:0≤b0∧b0<256) (h1:0≤b1∧b1<256) (h2:0≤b2∧b2<256) (h3:0≤b3∧b3<256) (h4:0≤b4∧b4<256) (h5:0≤b5∧b5<256) (h6:0≤b6∧b6<256) (h7:0≤b7∧b7<256):∃ l,InU l∧bq l 0=.int .u8 b0∧bq l 8=.int .u8 b1∧bq l 16=.int .u8 b2∧bq l 24=.int .u8 b3∧bq l 32=.int .u8 b4∧bq l 40=.int .u8 b5∧bq l 48=.int .u8 b6∧bq l 56=.int .u8 b7:=by
 refine ⟨1*b0+256*b1+65536*b2+16777216*b3+4294967296*b4+1099511627776*b5+281474976710656*b6+72057594037927936*b7,⟨by omega,by omega⟩,bq_eq 0 1 rfl (by omega) (by omega),bq_eq 8 256 rfl (by omega) (by omega),bq_eq 16 65536 rfl (by omega) (by omega),bq_eq 24 16777216 rfl (by omega) (by omega),bq_eq 32 4294967296 rfl (by omega) (by omega),bq_eq 40 1099511627776 rfl (by omega) (by omega),bq_eq 48 281474976710656 rfl (by omega) (by omega),bq_eq 56 72057594037927936 rfl (by omega) (by omega)⟩

theorem wf_u8' {x:Int} (h:(Lit.int .u8 x).wf=true):0≤x∧x<256:=by
 simp [Lit.wf,IntKind.min,IntKind.max,IntKind.signed,IntKind.bits] at h
 omega

theorem bytes_of {l:List Int} (hl:l.length=32) (hb:∀ x∈l,0≤x∧x<256):∃ l0 l1 l2 l3,InU l0∧InU l1∧InU l2∧InU l3∧l.map (Sc.int .u8)=bcsL l0 l1 l2 l3:=by
 match l,hl with
 | [b0,b1,b2,b3,b4,b5,b6,b7,b8,b9,b10,b11,b12,b13,b14,b15,b16,b17,b18,b19,b20,b21,b22,b23,b24,b25,b26,b27,b28,b29,b30,b31],_=>
  obtain ⟨l0,u0,e00,e01,e02,e03,e04,e05,e06,e07⟩:=limb_of (hb b31 (by simp)) (hb b30 (by simp)) (hb b29 (by simp)) (hb b28 (by simp)) (hb b27 (by simp)) (hb b26 (by simp)) (hb b25 (by simp)) (hb b24 (by simp))
  obtain ⟨l1,u1,e10,e11,e12,e13,e14,e15,e16,e17⟩:=limb_of (hb b23 (by simp)) (hb b22 (by simp)) (hb b21 (by simp)) (hb b20 (by simp)) (hb b19 (by simp)) (hb b18 (by simp)) (hb b17 (by simp)) (hb b16 (by simp))
  obtain ⟨l2,u2,e20,e21,e22,e23,e24,e25,e26,e27⟩:=limb_of (hb b15 (by simp)) (hb b14 (by simp)) (hb b13 (by simp)) (hb b12 (by simp)) (hb b11 (by simp)) (hb b10 (by simp)) (hb b9 (by simp)) (hb b8 (by simp))
  obtain ⟨l3,u3,e30,e31,e32,e33,e34,e35,e36,e37⟩:=limb_of (hb b7 (by simp)) (hb b6 (by simp)) (hb b5 (by simp)) (hb b4 (by simp)) (hb b3 (by simp)) (hb b2 (by simp)) (hb b1 (by simp)) (hb b0 (by simp))
  refine ⟨l0,l1,l2,l3,u0,u1,u2,u3,?_⟩
  unfold bcsL
  rw [e00,e01,e02,e03,e04,e05,e06,e07,e10,e11,e12,e13,e14,e15,e16,e17,e20,e21,e22,e23,e24,e25,e26,e27,e30,e31,e32,e33,e34,e35,e36,e37]
  rfl

end Go.Hv

namespace Go.Hv
open Go.Ev

theorem bcs4_eq (y:Int):bcs4 y=bcsL (y%18446744073709551616) (y/18446744073709551616%18446744073709551616) (y/340282366920938463463374607431768211456%18446744073709551616) (y/6277101735386680763835789423207666416102355444464034512896%18446744073709551616):=rfl

theorem bcsL_val {l0 l1 l2 l3:Int} (h0:InU l0) (h1:InU l1) (h2:InU l2) (h3:InU l3):bcsL l0 l1 l2 l3=bcs4 (val l0 l1 l2 l3):=by
 have e0:val l0 l1 l2 l3%18446744073709551616=l0:=by unfold val; omega
 have e1:val l0 l1 l2 l3/18446744073709551616%18446744073709551616=l1:=by unfold val; omega
 have e2:val l0 l1 l2 l3/340282366920938463463374607431768211456%18446744073709551616=l2:=by unfold val; omega
 have e3:val l0 l1 l2 l3/6277101735386680763835789423207666416102355444464034512896%18446744073709551616=l3:=by unfold val; omega
 rw [bcs4_eq,e0,e1,e2,e3]

end Go.Hv

import Derived.Test.YthmdbgdagnhheaaGreatDoorByB
import Derived.Test.YthmdbgdagnhheaaGreatDoorSeg
import Derived.Test.YthmdbgdagnhheaaGreatDoorHvR
namespace Go.Hv
open Go.Ev

theorem hco_start {A:Base} {f:FuncId} {fn:Func} {args:List TV} {K0:Nat→Nat→Blk→Base→Prop} (ord:Nat→Option (List Nat)) (hf:PG.funcs[f]?=some fn)
  (hb : fn.body = some (bodyOf fn)) (hn : (fn.name == "runtime.NumGoroutine") = false) (hk : okCode (HHo A ord) fn.ntmps (bodyOf fn) = true) (hargs : closedTs 0 args = true)
  (h:swpC (HHo A ord) (bodyOf fn) (post (HHo A ord) fn.results fun v m=>∃ b n cap k,v=.one (.slice (some (.loc b 0)) n cap)∧nth m.bs b=some k∧closedL 0 k.cells=true∧K0 n cap k m.N) (ienv 0 args) M0):HCO PG A f args K0:=
 hco_of_call hargs (call_of_swp (gH A ord) hf hb hn hk (swpC_imp _ (fun _ _ _ h=>h) h))

theorem cap_bytes {n:Nat} (h:n≤1000000):CapOk n 1:=⟨by omega,by omega⟩

end Go.Hv

namespace Go.Hv
open Go.Ev

set_option maxHeartbeats 4000000 in
set_option maxRecDepth 100000 in
theorem r3Bytes_hco {A:Base} {l0 l1 l2 l3:Int} (h0:InU l0) (h1:InU l1) (h2:InU l2) (h3:InU l3):HCO PG A f_ref03_Bytes [W (val l0 l1 l2 l3)] fun n cap k _=>n=32∧32≤cap∧k=⟨bcsL l0 l1 l2 l3,5,cap*1,true⟩:=by
 simp only [W,words_val h0 h1 h2 h3]
 refine hco_start (fun _=>none) h_ref03_Bytes rfl (by kernel_rfl) (by kernel_rfl) rfl ?_
 refine swp_cut fun K hK hR _=>?_
 conv=>whnf
 refine hK _ _ ?_
 clear hK hR
 refine swp_cut fun K hK hR _=>?_
 conv=>whnf
 refine hK _ _ ?_
 clear hK hR
 refine swp_cut fun K hK hR _=>?_
 conv=>whnf
 refine .inl ⟨5,round_cut fun K1 hK1 hX1 _=>?_⟩
 conv=>whnf
 refine .inl ⟨9,?_⟩
 conv=>whnf
 refine ⟨[_],rfl,rfl,rfl,?_⟩
 conv=>whnf
 refine ⟨cap_bytes (by omega),by omega,fun cap1 hcap1=>?_⟩
 conv=>whnf
 refine ⟨[_],rfl,rfl,rfl,?_⟩
 conv=>whnf
 refine ⟨rfl,hcap1,rfl,rfl,cap_bytes (by omega),fun cap2 hcap2=>?_⟩
 conv=>whnf
 refine ⟨[_],rfl,rfl,rfl,?_⟩
 conv=>whnf
 refine ⟨rfl,hcap2,rfl,rfl,cap_bytes (by omega),fun cap3 hcap3=>?_⟩
 conv=>whnf
 refine ⟨[_],rfl,rfl,rfl,?_⟩
 conv=>whnf
 refine ⟨rfl,hcap3,rfl,rfl,cap_bytes (by omega),fun cap4 hcap4=>?_⟩
 conv=>whnf
 refine ⟨[_],rfl,rfl,rfl,?_⟩
 conv=>whnf
 refine ⟨rfl,hcap4,rfl,rfl,cap_bytes (by omega),fun cap5 hcap5=>?_⟩
 conv=>whnf
 refine ⟨[_],rfl,rfl,rfl,?_⟩
 conv=>whnf
 refine ⟨rfl,hcap5,rfl,rfl,cap_bytes (by omega),fun cap6 hcap6=>?_⟩
 conv=>whnf
 refine ⟨[_],rfl,rfl,rfl,?_⟩
 conv=>whnf
 refine ⟨rfl,hcap6,rfl,rfl,cap_bytes (by omega),fun cap7 hcap7=>?_⟩
 conv=>whnf
 refine ⟨[_],rfl,rfl,rfl,?_⟩
 conv=>whnf
 refine ⟨rfl,hcap7,rfl,rfl,cap_bytes (by omega),fun cap8 hcap8=>?_⟩
 conv=>whnf
 refine hK1 _ _ ?_
 clear hK1 hX1
 refine round_next [(4,.one (.int .i64 (2))),(3,.one (.slice (some (.loc 16 0)) 8 cap8)),(2,.one (.slice none 0 0)),(1,.one (.ptr (some (.loc 0 0)))),(0,.agg [u l0,u l1,u l2,u l3])] ⟨[some ⟨[u l0,u l1,u l2,u l3],t_tollhouseref03_Num,0,false⟩,some ⟨[bq l3 56],5,0,false⟩,none,some ⟨[bq l3 48],5,0,false⟩,none,some ⟨[bq l3 40],5,0,false⟩,none,some ⟨[bq l3 32],5,0,false⟩,none,some ⟨[bq l3 24],5,0,false⟩,none,some ⟨[bq l3 16],5,0,false⟩,none,some ⟨[bq l3 8],5,0,false⟩,none,some ⟨[bq l3 0],5,0,false⟩,some ⟨[bq l3 56,bq l3 48,bq l3 40,bq l3 32,bq l3 24,bq l3 16,bq l3 8,bq l3 0],5,cap8*1,true⟩],M0.N⟩ rfl rfl ?_
 refine round_cut fun K1 hK1 hX1 _=>?_
 conv=>whnf
 refine .inl ⟨9,?_⟩
 conv=>whnf
 refine ⟨[_],rfl,rfl,rfl,?_⟩
 conv=>whnf
 refine ⟨rfl,hcap8,rfl,rfl,cap_bytes (by omega),fun cap9 hcap9=>?_⟩
 conv=>whnf
 refine ⟨[_],rfl,rfl,rfl,?_⟩
 conv=>whnf
 refine ⟨rfl,hcap9,rfl,rfl,cap_bytes (by omega),fun cap10 hcap10=>?_⟩
 conv=>whnf
 refine ⟨[_],rfl,rfl,rfl,?_⟩
 conv=>whnf
 refine ⟨rfl,hcap10,rfl,rfl,cap_bytes (by omega),fun cap11 hcap11=>?_⟩
 conv=>whnf
 refine ⟨[_],rfl,rfl,rfl,?_⟩
 conv=>whnf
 refine ⟨rfl,hcap11,rfl,rfl,cap_bytes (by omega),fun cap12 hcap12=>?_⟩
 conv=>whnf
 refine ⟨[_],rfl,rfl,rfl,?_⟩
 conv=>whnf
 refine ⟨rfl,hcap12,rfl,rfl,cap_bytes (by omega),fun cap13 hcap13=>?_⟩
 conv=>whnf
 refine ⟨[_],rfl,rfl,rfl,?_⟩
 conv=>whnf
 refine ⟨rfl,hcap13,rfl,rfl,cap_bytes (by omega),fun cap14 hcap14=>?_⟩
 conv=>whnf
 refine ⟨[_],rfl,rfl,rfl,?_⟩
 conv=>whnf
 refine ⟨rfl,hcap14,rfl,rfl,cap_bytes (by omega),fun cap15 hcap15=>?_⟩
 conv=>whnf
 refine ⟨[_],rfl,rfl,rfl,?_⟩
 conv=>whnf
 refine ⟨rfl,hcap15,rfl,rfl,cap_bytes (by omega),fun cap16 hcap16=>?_⟩
 conv=>whnf
 refine hK1 _ _ ?_
 clear hK1 hX1
 refine round_next [(4,.one (.int .i64 (1))),(3,.one (.slice (some (.loc 32 0)) 16 cap16)),(2,.one (.slice none 0 0)),(1,.one (.ptr (some (.loc 0 0)))),(0,.agg [u l0,u l1,u l2,u l3])] ⟨[some ⟨[u l0,u l1,u l2,u l3],t_tollhouseref03_Num,0,false⟩,some ⟨[bq l3 56],5,0,false⟩,none,some ⟨[bq l3 48],5,0,false⟩,none,some ⟨[bq l3 40],5,0,false⟩,none,some ⟨[bq l3 32],5,0,false⟩,none,some ⟨[bq l3 24],5,0,false⟩,none,some ⟨[bq l3 16],5,0,false⟩,none,some ⟨[bq l3 8],5,0,false⟩,none,some ⟨[bq l3 0],5,0,false⟩,none,some ⟨[bq l2 56],5,0,false⟩,none,some ⟨[bq l2 48],5,0,false⟩,none,some ⟨[bq l2 40],5,0,false⟩,none,some ⟨[bq l2 32],5,0,false⟩,none,some ⟨[bq l2 24],5,0,false⟩,none,some ⟨[bq l2 16],5,0,false⟩,none,some ⟨[bq l2 8],5,0,false⟩,none,some ⟨[bq l2 0],5,0,false⟩,some ⟨[bq l3 56,bq l3 48,bq l3 40,bq l3 32,bq l3 24,bq l3 16,bq l3 8,bq l3 0,bq l2 56,bq l2 48,bq l2 40,bq l2 32,bq l2 24,bq l2 16,bq l2 8,bq l2 0],5,cap16*1,true⟩],M0.N⟩ rfl rfl ?_
 refine round_cut fun K1 hK1 hX1 _=>?_
 conv=>whnf
 refine .inl ⟨9,?_⟩
 conv=>whnf
 refine ⟨[_],rfl,rfl,rfl,?_⟩
 conv=>whnf
 refine ⟨rfl,hcap16,rfl,rfl,cap_bytes (by omega),fun cap17 hcap17=>?_⟩
 conv=>whnf
 refine ⟨[_],rfl,rfl,rfl,?_⟩
 conv=>whnf
 refine ⟨rfl,hcap17,rfl,rfl,cap_bytes (by omega),fun cap18 hcap18=>?_⟩
 conv=>whnf
 refine ⟨[_],rfl,rfl,rfl,?_⟩
 conv=>whnf
 refine ⟨rfl,hcap18,rfl,rfl,cap_bytes (by omega),fun cap19 hcap19=>?_⟩
 conv=>whnf
 refine ⟨[_],rfl,rfl,rfl,?_⟩
 conv=>whnf
 refine ⟨rfl,hcap19,rfl,rfl,cap_bytes (by omega),fun cap20 hcap20=>?_⟩
 conv=>whnf
 refine ⟨[_],rfl,rfl,rfl,?_⟩
 conv=>whnf
 refine ⟨rfl,hcap20,rfl,rfl,cap_bytes (by omega),fun cap21 hcap21=>?_⟩
 conv=>whnf
 refine ⟨[_],rfl,rfl,rfl,?_⟩
 conv=>whnf
 refine ⟨rfl,hcap21,rfl,rfl,cap_bytes (by omega),fun cap22 hcap22=>?_⟩
 conv=>whnf
 refine ⟨[_],rfl,rfl,rfl,?_⟩
 conv=>whnf
 refine ⟨rfl,hcap22,rfl,rfl,cap_bytes (by omega),fun cap23 hcap23=>?_⟩
 conv=>whnf
 refine ⟨[_],rfl,rfl,rfl,?_⟩
 conv=>whnf
 refine ⟨rfl,hcap23,rfl,rfl,cap_bytes (by omega),fun cap24 hcap24=>?_⟩
 conv=>whnf
 refine hK1 _ _ ?_
 clear hK1 hX1
 refine round_next [(4,.one (.int .i64 (0))),(3,.one (.slice (some (.loc 48 0)) 24 cap24)),(2,.one (.slice none 0 0)),(1,.one (.ptr (some (.loc 0 0)))),(0,.agg [u l0,u l1,u l2,u l3])] ⟨[some ⟨[u l0,u l1,u l2,u l3],t_tollhouseref03_Num,0,false⟩,some ⟨[bq l3 56],5,0,false⟩,none,some ⟨[bq l3 48],5,0,false⟩,none,some ⟨[bq l3 40],5,0,false⟩,none,some ⟨[bq l3 32],5,0,false⟩,none,some ⟨[bq l3 24],5,0,false⟩,none,some ⟨[bq l3 16],5,0,false⟩,none,some ⟨[bq l3 8],5,0,false⟩,none,some ⟨[bq l3 0],5,0,false⟩,none,some ⟨[bq l2 56],5,0,false⟩,none,some ⟨[bq l2 48],5,0,false⟩,none,some ⟨[bq l2 40],5,0,false⟩,none,some ⟨[bq l2 32],5,0,false⟩,none,some ⟨[bq l2 24],5,0,false⟩,none,some ⟨[bq l2 16],5,0,false⟩,none,some ⟨[bq l2 8],5,0,false⟩,none,some ⟨[bq l2 0],5,0,false⟩,none,some ⟨[bq l1 56],5,0,false⟩,none,some ⟨[bq l1 48],5,0,false⟩,none,some ⟨[bq l1 40],5,0,false⟩,none,some ⟨[bq l1 32],5,0,false⟩,none,some ⟨[bq l1 24],5,0,false⟩,none,some ⟨[bq l1 16],5,0,false⟩,none,some ⟨[bq l1 8],5,0,false⟩,none,some ⟨[bq l1 0],5,0,false⟩,some ⟨[bq l3 56,bq l3 48,bq l3 40,bq l3 32,bq l3 24,bq l3 16,bq l3 8,bq l3 0,bq l2 56,bq l2 48,bq l2 40,bq l2 32,bq l2 24,bq l2 16,bq l2 8,bq l2 0,bq l1 56,bq l1 48,bq l1 40,bq l1 32,bq l1 24,bq l1 16,bq l1 8,bq l1 0],5,cap24*1,true⟩],M0.N⟩ rfl rfl ?_
 refine round_cut fun K1 hK1 hX1 _=>?_
 conv=>whnf
 refine .inl ⟨9,?_⟩
 conv=>whnf
 refine ⟨[_],rfl,rfl,rfl,?_⟩
 conv=>whnf
 refine ⟨rfl,hcap24,rfl,rfl,cap_bytes (by omega),fun cap25 hcap25=>?_⟩
 conv=>whnf
 refine ⟨[_],rfl,rfl,rfl,?_⟩
 conv=>whnf
 refine ⟨rfl,hcap25,rfl,rfl,cap_bytes (by omega),fun cap26 hcap26=>?_⟩
 conv=>whnf
 refine ⟨[_],rfl,rfl,rfl,?_⟩
 conv=>whnf
 refine ⟨rfl,hcap26,rfl,rfl,cap_bytes (by omega),fun cap27 hcap27=>?_⟩
 conv=>whnf
 refine ⟨[_],rfl,rfl,rfl,?_⟩
 conv=>whnf
 refine ⟨rfl,hcap27,rfl,rfl,cap_bytes (by omega),fun cap28 hcap28=>?_⟩
 conv=>whnf
 refine ⟨[_],rfl,rfl,rfl,?_⟩
 conv=>whnf
 refine ⟨rfl,hcap28,rfl,rfl,cap_bytes (by omega),fun cap29 hcap29=>?_⟩
 conv=>whnf
 refine ⟨[_],rfl,rfl,rfl,?_⟩
 conv=>whnf
 refine ⟨rfl,hcap29,rfl,rfl,cap_bytes (by omega),fun cap30 hcap30=>?_⟩
 conv=>whnf
 refine ⟨[_],rfl,rfl,rfl,?_⟩
 conv=>whnf
 refine ⟨rfl,hcap30,rfl,rfl,cap_bytes (by omega),fun cap31 hcap31=>?_⟩
 conv=>whnf
 refine ⟨[_],rfl,rfl,rfl,?_⟩
 conv=>whnf
 refine ⟨rfl,hcap31,rfl,rfl,cap_bytes (by omega),fun cap32 hcap32=>?_⟩
 conv=>whnf
 refine hK1 _ _ ?_
 clear hK1 hX1
 refine round_next [(4,.one (.int .i64 (-1))),(3,.one (.slice (some (.loc 64 0)) 32 cap32)),(2,.one (.slice none 0 0)),(1,.one (.ptr (some (.loc 0 0)))),(0,.agg [u l0,u l1,u l2,u l3])] ⟨[some ⟨[u l0,u l1,u l2,u l3],t_tollhouseref03_Num,0,false⟩,some ⟨[bq l3 56],5,0,false⟩,none,some ⟨[bq l3 48],5,0,false⟩,none,some ⟨[bq l3 40],5,0,false⟩,none,some ⟨[bq l3 32],5,0,false⟩,none,some ⟨[bq l3 24],5,0,false⟩,none,some ⟨[bq l3 16],5,0,false⟩,none,some ⟨[bq l3 8],5,0,false⟩,none,some ⟨[bq l3 0],5,0,false⟩,none,some ⟨[bq l2 56],5,0,false⟩,none,some ⟨[bq l2 48],5,0,false⟩,none,some ⟨[bq l2 40],5,0,false⟩,none,some ⟨[bq l2 32],5,0,false⟩,none,some ⟨[bq l2 24],5,0,false⟩,none,some ⟨[bq l2 16],5,0,false⟩,none,some ⟨[bq l2 8],5,0,false⟩,none,some ⟨[bq l2 0],5,0,false⟩,none,some ⟨[bq l1 56],5,0,false⟩,none,some ⟨[bq l1 48],5,0,false⟩,none,some ⟨[bq l1 40],5,0,false⟩,none,some ⟨[bq l1 32],5,0,false⟩,none,some ⟨[bq l1 24],5,0,false⟩,none,some ⟨[bq l1 16],5,0,false⟩,none,some ⟨[bq l1 8],5,0,false⟩,none,some ⟨[bq l1 0],5,0,false⟩,none,some ⟨[bq l0 56],5,0,false⟩,none,some ⟨[bq l0 48],5,0,false⟩,none,some ⟨[bq l0 40],5,0,false⟩,none,some ⟨[bq l0 32],5,0,false⟩,none,some ⟨[bq l0 24],5,0,false⟩,none,some ⟨[bq l0 16],5,0,false⟩,none,some ⟨[bq l0 8],5,0,false⟩,none,some ⟨[bq l0 0],5,0,false⟩,some ⟨[bq l3 56,bq l3 48,bq l3 40,bq l3 32,bq l3 24,bq l3 16,bq l3 8,bq l3 0,bq l2 56,bq l2 48,bq l2 40,bq l2 32,bq l2 24,bq l2 16,bq l2 8,bq l2 0,bq l1 56,bq l1 48,bq l1 40,bq l1 32,bq l1 24,bq l1 16,bq l1 8,bq l1 0,bq l0 56,bq l0 48,bq l0 40,bq l0 32,bq l0 24,bq l0 16,bq l0 8,bq l0 0],5,cap32*1,true⟩],M0.N⟩ rfl rfl ?_
 refine round_cut fun K1 hK1 hX1 _=>?_
 conv=>whnf
 refine hX1 _ _ _ ?_
 conv=>whnf
 refine hK _ _ ?_
 conv=>whnf
 exact ⟨_,_,_,_,rfl,rfl,rfl,rfl,hcap32,rfl⟩

end Go.Hv

namespace Go.Hv
open Go.Ev

def nst (acc l:Int) (k:Nat):Int:=(acc*256%18446744073709551616+IntKind.u8.wrap (l.fdiv (2^k))%18446744073709551616)%18446744073709551616

theorem nst_eq {l acc:Int} (k:Nat) (P Q:Int) (hP:(2:Int)^k=P) (h1:0<P) (hQ:Q=256*P) (ha:acc=l/Q) (hl:InU l) (h2:256*P≤18446744073709551616):nst acc l k=l/P:=by
 unfold nst
 rw [hP,Int.fdiv_eq_ediv_of_nonneg _ (by omega)]
 simp only [IntKind.wrap,IntKind.signed,IntKind.bits]
 simp
 have e:l/Q=l/P/256:=by rw [hQ,Int.mul_comm,Int.ediv_ediv_of_nonneg (by omega)]
 have h3:0≤l/P:=Int.ediv_nonneg hl.1 (by omega)
 have h4:l/P≤l:=Int.ediv_le_self P hl.1
 rw [ha,e]
 have:=hl.2
 generalize l/P=z at *
 omega

theorem nst_56 {l:Int} (hl:InU l):nst (0) l 56=l/72057594037927936:=by
 have h:=nst_eq (acc:=0) 56 72057594037927936 18446744073709551616 (by decide) (by omega) (by omega) (by omega) hl (by omega)
 exact h

theorem nst_48 {l:Int} (hl:InU l):nst (l/72057594037927936) l 48=l/281474976710656:=by
 have h:=nst_eq (acc:=l/72057594037927936) 48 281474976710656 72057594037927936 (by decide) (by omega) (by omega) rfl hl (by omega)
 exact h

theorem nst_40 {l:Int} (hl:InU l):nst (l/281474976710656) l 40=l/1099511627776:=by
 have h:=nst_eq (acc:=l/281474976710656) 40 1099511627776 281474976710656 (by decide) (by omega) (by omega) rfl hl (by omega)
 exact h

theorem nst_32 {l:Int} (hl:InU l):nst (l/1099511627776) l 32=l/4294967296:=by
 have h:=nst_eq (acc:=l/1099511627776) 32 4294967296 1099511627776 (by decide) (by omega) (by omega) rfl hl (by omega)
 exact h

theorem nst_24 {l:Int} (hl:InU l):nst (l/4294967296) l 24=l/16777216:=by
 have h:=nst_eq (acc:=l/4294967296) 24 16777216 4294967296 (by decide) (by omega) (by omega) rfl hl (by omega)
 exact h

theorem nst_16 {l:Int} (hl:InU l):nst (l/16777216) l 16=l/65536:=by
 have h:=nst_eq (acc:=l/16777216) 16 65536 16777216 (by decide) (by omega) (by omega) rfl hl (by omega)
 exact h

theorem nst_8 {l:Int} (hl:InU l):nst (l/65536) l 8=l/256:=by
 have h:=nst_eq (acc:=l/65536) 8 256 65536 (by decide) (by omega) (by omega) rfl hl (by omega)
 exact h

theorem nst_0 {l:Int} (hl:InU l):nst (l/256) l 0=l:=by
 have h:=nst_eq (acc:=l/256) 0 1 256 (by decide) (by omega) (by omega) rfl hl (by omega)
 rw [h]; omega

set_option maxHeartbeats 4000000 in
set_option maxRecDepth 100000 in
theorem r3Number_hc {A:Base} {s:TV} {l0 l1 l2 l3:Int} (h0:InU l0) (h1:InU l1) (h2:InU l2) (h3:InU l3) (hs:Sl A 1 s (ones (bcsL l0 l1 l2 l3))):HC PG A f_ref03_Number [s] fun v _=>v=W (val l0 l1 l2 l3):=by
 obtain ⟨p,cap,rfl,g1,g2,g3⟩:=id hs
 have hp:closedTs 0 [TV.one (.slice p (ones (bcsL l0 l1 l2 l3)).length cap)]=true:=closedTs_iff.2 fun v hv=>by simp only [List.mem_singleton] at hv; subst hv; exact hs.stable.1 0
 refine hc_start (fun _=>none) h_ref03_Number rfl (by kernel_rfl) (by kernel_rfl) hp ?_
 match p,g3 with
 | none,g3=>exact absurd g3.1 (by simp [ones,bcsL])
 | some (.ext a),_=>
  have hl:(ones (bcsL l0 l1 l2 l3)).length=32:=rfl
  rw [hl]
  rw [hl] at hs
  refine swp_cut fun K hK hR _=>?_
  conv=>whnf
  refine hK _ _ ?_
  clear hK hR
  refine swp_cut fun K hK hR _=>?_
  conv=>whnf
  refine hK _ _ ?_
  clear hK hR
  refine swp_cut fun K hK hR _=>?_
  conv=>whnf
  refine .inl ⟨33,round_cut fun K1 hK1 hX1 _=>?_⟩
  conv=>whnf
  refine ⟨_,ERead_l (hs.one rfl),?_⟩
  conv=>whnf
  refine hK1 _ _ ?_
  clear hK1 hX1
  refine round_next [(4,.one (.int .i64 1)),(3,.one (.ptr (some (.loc 1 0)))),(2,.one (.ptr (some (.loc 0 0)))),(0,.one (.slice (some (.ext a)) 32 cap))] ⟨[some ⟨[u 0,u 0,u 0,u 0],t_tollhouseref03_Num,0,false⟩,some ⟨[u (0),u (0),u (0),u (nst (0) l3 56)],t_tollhouseref03_Num,0,false⟩],M0.N⟩ rfl rfl ?_
  rw [nst_56 h3]
  refine round_cut fun K1 hK1 hX1 _=>?_
  conv=>whnf
  refine ⟨_,ERead_l (hs.one rfl),?_⟩
  conv=>whnf
  refine hK1 _ _ ?_
  clear hK1 hX1
  refine round_next [(4,.one (.int .i64 2)),(3,.one (.ptr (some (.loc 1 0)))),(2,.one (.ptr (some (.loc 0 0)))),(0,.one (.slice (some (.ext a)) 32 cap))] ⟨[some ⟨[u 0,u 0,u 0,u 0],t_tollhouseref03_Num,0,false⟩,some ⟨[u (0),u (0),u (0),u (nst (l3/72057594037927936) l3 48)],t_tollhouseref03_Num,0,false⟩],M0.N⟩ rfl rfl ?_
  rw [nst_48 h3]
  refine round_cut fun K1 hK1 hX1 _=>?_
  conv=>whnf
  refine ⟨_,ERead_l (hs.one rfl),?_⟩
  conv=>whnf
  refine hK1 _ _ ?_
  clear hK1 hX1
  refine round_next [(4,.one (.int .i64 3)),(3,.one (.ptr (some (.loc 1 0)))),(2,.one (.ptr (some (.loc 0 0)))),(0,.one (.slice (some (.ext a)) 32 cap))] ⟨[some ⟨[u 0,u 0,u 0,u 0],t_tollhouseref03_Num,0,false⟩,some ⟨[u (0),u (0),u (0),u (nst (l3/281474976710656) l3 40)],t_tollhouseref03_Num,0,false⟩],M0.N⟩ rfl rfl ?_
  rw [nst_40 h3]
  refine round_cut fun K1 hK1 hX1 _=>?_
  conv=>whnf
  refine ⟨_,ERead_l (hs.one rfl),?_⟩
  conv=>whnf
  refine hK1 _ _ ?_
  clear hK1 hX1
  refine round_next [(4,.one (.int .i64 4)),(3,.one (.ptr (some (.loc 1 0)))),(2,.one (.ptr (some (.loc 0 0)))),(0,.one (.slice (some (.ext a)) 32 cap))] ⟨[some ⟨[u 0,u 0,u 0,u 0],t_tollhouseref03_Num,0,false⟩,some ⟨[u (0),u (0),u (0),u (nst (l3/1099511627776) l3 32)],t_tollhouseref03_Num,0,false⟩],M0.N⟩ rfl rfl ?_
  rw [nst_32 h3]
  refine round_cut fun K1 hK1 hX1 _=>?_
  conv=>whnf
  refine ⟨_,ERead_l (hs.one rfl),?_⟩
  conv=>whnf
  refine hK1 _ _ ?_
  clear hK1 hX1
  refine round_next [(4,.one (.int .i64 5)),(3,.one (.ptr (some (.loc 1 0)))),(2,.one (.ptr (some (.loc 0 0)))),(0,.one (.slice (some (.ext a)) 32 cap))] ⟨[some ⟨[u 0,u 0,u 0,u 0],t_tollhouseref03_Num,0,false⟩,some ⟨[u (0),u (0),u (0),u (nst (l3/4294967296) l3 24)],t_tollhouseref03_Num,0,false⟩],M0.N⟩ rfl rfl ?_
  rw [nst_24 h3]
  refine round_cut fun K1 hK1 hX1 _=>?_
  conv=>whnf
  refine ⟨_,ERead_l (hs.one rfl),?_⟩
  conv=>whnf
  refine hK1 _ _ ?_
  clear hK1 hX1
  refine round_next [(4,.one (.int .i64 6)),(3,.one (.ptr (some (.loc 1 0)))),(2,.one (.ptr (some (.loc 0 0)))),(0,.one (.slice (some (.ext a)) 32 cap))] ⟨[some ⟨[u 0,u 0,u 0,u 0],t_tollhouseref03_Num,0,false⟩,some ⟨[u (0),u (0),u (0),u (nst (l3/16777216) l3 16)],t_tollhouseref03_Num,0,false⟩],M0.N⟩ rfl rfl ?_
  rw [nst_16 h3]
  refine round_cut fun K1 hK1 hX1 _=>?_
  conv=>whnf
  refine ⟨_,ERead_l (hs.one rfl),?_⟩
  conv=>whnf
  refine hK1 _ _ ?_
  clear hK1 hX1
  refine round_next [(4,.one (.int .i64 7)),(3,.one (.ptr (some (.loc 1 0)))),(2,.one (.ptr (some (.loc 0 0)))),(0,.one (.slice (some (.ext a)) 32 cap))] ⟨[some ⟨[u 0,u 0,u 0,u 0],t_tollhouseref03_Num,0,false⟩,some ⟨[u (0),u (0),u (0),u (nst (l3/65536) l3 8)],t_tollhouseref03_Num,0,false⟩],M0.N⟩ rfl rfl ?_
  rw [nst_8 h3]
  refine round_cut fun K1 hK1 hX1 _=>?_
  conv=>whnf
  refine ⟨_,ERead_l (hs.one rfl),?_⟩
  conv=>whnf
  refine hK1 _ _ ?_
  clear hK1 hX1
  refine round_next [(4,.one (.int .i64 8)),(3,.one (.ptr (some (.loc 1 0)))),(2,.one (.ptr (some (.loc 0 0)))),(0,.one (.slice (some (.ext a)) 32 cap))] ⟨[some ⟨[u 0,u 0,u 0,u 0],t_tollhouseref03_Num,0,false⟩,some ⟨[u (0),u (0),u (0),u (nst (l3/256) l3 0)],t_tollhouseref03_Num,0,false⟩],M0.N⟩ rfl rfl ?_
  rw [nst_0 h3]
  refine round_cut fun K1 hK1 hX1 _=>?_
  conv=>whnf
  refine ⟨_,ERead_l (hs.one rfl),?_⟩
  conv=>whnf
  refine hK1 _ _ ?_
  clear hK1 hX1
  refine round_next [(4,.one (.int .i64 9)),(3,.one (.ptr (some (.loc 1 0)))),(2,.one (.ptr (some (.loc 0 0)))),(0,.one (.slice (some (.ext a)) 32 cap))] ⟨[some ⟨[u 0,u 0,u 0,u 0],t_tollhouseref03_Num,0,false⟩,some ⟨[u (0),u (0),u (nst (0) l2 56),u (l3)],t_tollhouseref03_Num,0,false⟩],M0.N⟩ rfl rfl ?_
  rw [nst_56 h2]
  refine round_cut fun K1 hK1 hX1 _=>?_
  conv=>whnf
  refine ⟨_,ERead_l (hs.one rfl),?_⟩
  conv=>whnf
  refine hK1 _ _ ?_
  clear hK1 hX1
  refine round_next [(4,.one (.int .i64 10)),(3,.one (.ptr (some (.loc 1 0)))),(2,.one (.ptr (some (.loc 0 0)))),(0,.one (.slice (some (.ext a)) 32 cap))] ⟨[some ⟨[u 0,u 0,u 0,u 0],t_tollhouseref03_Num,0,false⟩,some ⟨[u (0),u (0),u (nst (l2/72057594037927936) l2 48),u (l3)],t_tollhouseref03_Num,0,false⟩],M0.N⟩ rfl rfl ?_
  rw [nst_48 h2]
  refine round_cut fun K1 hK1 hX1 _=>?_
  conv=>whnf
  refine ⟨_,ERead_l (hs.one rfl),?_⟩
  conv=>whnf
  refine hK1 _ _ ?_
  clear hK1 hX1
  refine round_next [(4,.one (.int .i64 11)),(3,.one (.ptr (some (.loc 1 0)))),(2,.one (.ptr (some (.loc 0 0)))),(0,.one (.slice (some (.ext a)) 32 cap))] ⟨[some ⟨[u 0,u 0,u 0,u 0],t_tollhouseref03_Num,0,false⟩,some ⟨[u (0),u (0),u (nst (l2/281474976710656) l2 40),u (l3)],t_tollhouseref03_Num,0,false⟩],M0.N⟩ rfl rfl ?_
  rw [nst_40 h2]
  refine round_cut fun K1 hK1 hX1 _=>?_
  conv=>whnf
  refine ⟨_,ERead_l (hs.one rfl),?_⟩
  conv=>whnf
  refine hK1 _ _ ?_
  clear hK1 hX1
  refine round_next [(4,.one (.int .i64 12)),(3,.one (.ptr (some (.loc 1 0)))),(2,.one (.ptr (some (.loc 0 0)))),(0,.one (.slice (some (.ext a)) 32 cap))] ⟨[some ⟨[u 0,u 0,u 0,u 0],t_tollhouseref03_Num,0,false⟩,some ⟨[u (0),u (0),u (nst (l2/1099511627776) l2 32),u (l3)],t_tollhouseref03_Num,0,false⟩],M0.N⟩ rfl rfl ?_
  rw [nst_32 h2]
  refine round_cut fun K1 hK1 hX1 _=>?_
  conv=>whnf
  refine ⟨_,ERead_l (hs.one rfl),?_⟩
  conv=>whnf
  refine hK1 _ _ ?_
  clear hK1 hX1
  refine round_next [(4,.one (.int .i64 13)),(3,.one (.ptr (some (.loc 1 0)))),(2,.one (.ptr (some (.loc 0 0)))),(0,.one (.slice (some (.ext a)) 32 cap))] ⟨[some ⟨[u 0,u 0,u 0,u 0],t_tollhouseref03_Num,0,false⟩,some ⟨[u (0),u (0),u (nst (l2/4294967296) l2 24),u (l3)],t_tollhouseref03_Num,0,false⟩],M0.N⟩ rfl rfl ?_
  rw [nst_24 h2]
  refine round_cut fun K1 hK1 hX1 _=>?_
  conv=>whnf
  refine ⟨_,ERead_l (hs.one rfl),?_⟩
  conv=>whnf
  refine hK1 _ _ ?_
  clear hK1 hX1
  refine round_next [(4,.one (.int .i64 14)),(3,.one (.ptr (some (.loc 1 0)))),(2,.one (.ptr (some (.loc 0 0)))),(0,.one (.slice (some (.ext a)) 32 cap))] ⟨[some ⟨[u 0,u 0,u 0,u 0],t_tollhouseref03_Num,0,false⟩,some ⟨[u (0),u (0),u (nst (l2/16777216) l2 16),u (l3)],t_tollhouseref03_Num,0,false⟩],M0.N⟩ rfl rfl ?_
  rw [nst_16 h2]
  refine round_cut fun K1 hK1 hX1 _=>?_
  conv=>whnf
  refine ⟨_,ERead_l (hs.one rfl),?_⟩
  conv=>whnf
  refine hK1 _ _ ?_
  clear hK1 hX1
  refine round_next [(4,.one (.int .i64 15)),(3,.one (.ptr (some (.loc 1 0)))),(2,.one (.ptr (some (.loc 0 0)))),(0,.one (.slice (some (.ext a)) 32 cap))] ⟨[some ⟨[u 0,u 0,u 0,u 0],t_tollhouseref03_Num,0,false⟩,some ⟨[u (0),u (0),u (nst (l2/65536) l2 8),u (l3)],t_tollhouseref03_Num,0,false⟩],M0.N⟩ rfl rfl ?_
  rw [nst_8 h2]
  refine round_cut fun K1 hK1 hX1 _=>?_
  conv=>whnf
  refine ⟨_,ERead_l (hs.one rfl),?_⟩
  conv=>whnf
  refine hK1 _ _ ?_
  clear hK1 hX1
  refine round_next [(4,.one (.int .i64 16)),(3,.one (.ptr (some (.loc 1 0)))),(2,.one (.ptr (some (.loc 0 0)))),(0,.one (.slice (some (.ext a)) 32 cap))] ⟨[some ⟨[u 0,u 0,u 0,u 0],t_tollhouseref03_Num,0,false⟩,some ⟨[u (0),u (0),u (nst (l2/256) l2 0),u (l3)],t_tollhouseref03_Num,0,false⟩],M0.N⟩ rfl rfl ?_
  rw [nst_0 h2]
  refine round_cut fun K1 hK1 hX1 _=>?_
  conv=>whnf
  refine ⟨_,ERead_l (hs.one rfl),?_⟩
  conv=>whnf
  refine hK1 _ _ ?_
  clear hK1 hX1
  refine round_next [(4,.one (.int .i64 17)),(3,.one (.ptr (some (.loc 1 0)))),(2,.one (.ptr (some (.loc 0 0)))),(0,.one (.slice (some (.ext a)) 32 cap))] ⟨[some ⟨[u 0,u 0,u 0,u 0],t_tollhouseref03_Num,0,false⟩,some ⟨[u (0),u (nst (0) l1 56),u (l2),u (l3)],t_tollhouseref03_Num,0,false⟩],M0.N⟩ rfl rfl ?_
  rw [nst_56 h1]
  refine round_cut fun K1 hK1 hX1 _=>?_
  conv=>whnf
  refine ⟨_,ERead_l (hs.one rfl),?_⟩
  conv=>whnf
  refine hK1 _ _ ?_
  clear hK1 hX1
  refine round_next [(4,.one (.int .i64 18)),(3,.one (.ptr (some (.loc 1 0)))),(2,.one (.ptr (some (.loc 0 0)))),(0,.one (.slice (some (.ext a)) 32 cap))] ⟨[some ⟨[u 0,u 0,u 0,u 0],t_tollhouseref03_Num,0,false⟩,some ⟨[u (0),u (nst (l1/72057594037927936) l1 48),u (l2),u (l3)],t_tollhouseref03_Num,0,false⟩],M0.N⟩ rfl rfl ?_
  rw [nst_48 h1]
  refine round_cut fun K1 hK1 hX1 _=>?_
  conv=>whnf
  refine ⟨_,ERead_l (hs.one rfl),?_⟩
  conv=>whnf
  refine hK1 _ _ ?_
  clear hK1 hX1
  refine round_next [(4,.one (.int .i64 19)),(3,.one (.ptr (some (.loc 1 0)))),(2,.one (.ptr (some (.loc 0 0)))),(0,.one (.slice (some (.ext a)) 32 cap))] ⟨[some ⟨[u 0,u 0,u 0,u 0],t_tollhouseref03_Num,0,false⟩,some ⟨[u (0),u (nst (l1/281474976710656) l1 40),u (l2),u (l3)],t_tollhouseref03_Num,0,false⟩],M0.N⟩ rfl rfl ?_
  rw [nst_40 h1]
  refine round_cut fun K1 hK1 hX1 _=>?_
  conv=>whnf
  refine ⟨_,ERead_l (hs.one rfl),?_⟩
  conv=>whnf
  refine hK1 _ _ ?_
  clear hK1 hX1
  refine round_next [(4,.one (.int .i64 20)),(3,.one (.ptr (some (.loc 1 0)))),(2,.one (.ptr (some (.loc 0 0)))),(0,.one (.slice (some (.ext a)) 32 cap))] ⟨[some ⟨[u 0,u 0,u 0,u 0],t_tollhouseref03_Num,0,false⟩,some ⟨[u (0),u (nst (l1/1099511627776) l1 32),u (l2),u (l3)],t_tollhouseref03_Num,0,false⟩],M0.N⟩ rfl rfl ?_
  rw [nst_32 h1]
  refine round_cut fun K1 hK1 hX1 _=>?_
  conv=>whnf
  refine ⟨_,ERead_l (hs.one rfl),?_⟩
  conv=>whnf
  refine hK1 _ _ ?_
  clear hK1 hX1
  refine round_next [(4,.one (.int .i64 21)),(3,.one (.ptr (some (.loc 1 0)))),(2,.one (.ptr (some (.loc 0 0)))),(0,.one (.slice (some (.ext a)) 32 cap))] ⟨[some ⟨[u 0,u 0,u 0,u 0],t_tollhouseref03_Num,0,false⟩,some ⟨[u (0),u (nst (l1/4294967296) l1 24),u (l2),u (l3)],t_tollhouseref03_Num,0,false⟩],M0.N⟩ rfl rfl ?_
  rw [nst_24 h1]
  refine round_cut fun K1 hK1 hX1 _=>?_
  conv=>whnf
  refine ⟨_,ERead_l (hs.one rfl),?_⟩
  conv=>whnf
  refine hK1 _ _ ?_
  clear hK1 hX1
  refine round_next [(4,.one (.int .i64 22)),(3,.one (.ptr (some (.loc 1 0)))),(2,.one (.ptr (some (.loc 0 0)))),(0,.one (.slice (some (.ext a)) 32 cap))] ⟨[some ⟨[u 0,u 0,u 0,u 0],t_tollhouseref03_Num,0,false⟩,some ⟨[u (0),u (nst (l1/16777216) l1 16),u (l2),u (l3)],t_tollhouseref03_Num,0,false⟩],M0.N⟩ rfl rfl ?_
  rw [nst_16 h1]
  refine round_cut fun K1 hK1 hX1 _=>?_
  conv=>whnf
  refine ⟨_,ERead_l (hs.one rfl),?_⟩
  conv=>whnf
  refine hK1 _ _ ?_
  clear hK1 hX1
  refine round_next [(4,.one (.int .i64 23)),(3,.one (.ptr (some (.loc 1 0)))),(2,.one (.ptr (some (.loc 0 0)))),(0,.one (.slice (some (.ext a)) 32 cap))] ⟨[some ⟨[u 0,u 0,u 0,u 0],t_tollhouseref03_Num,0,false⟩,some ⟨[u (0),u (nst (l1/65536) l1 8),u (l2),u (l3)],t_tollhouseref03_Num,0,false⟩],M0.N⟩ rfl rfl ?_
  rw [nst_8 h1]
  refine round_cut fun K1 hK1 hX1 _=>?_
  conv=>whnf
  refine ⟨_,ERead_l (hs.one rfl),?_⟩
  conv=>whnf
  refine hK1 _ _ ?_
  clear hK1 hX1
  refine round_next [(4,.one (.int .i64 24)),(3,.one (.ptr (some (.loc 1 0)))),(2,.one (.ptr (some (.loc 0 0)))),(0,.one (.slice (some (.ext a)) 32 cap))] ⟨[some ⟨[u 0,u 0,u 0,u 0],t_tollhouseref03_Num,0,false⟩,some ⟨[u (0),u (nst (l1/256) l1 0),u (l2),u (l3)],t_tollhouseref03_Num,0,false⟩],M0.N⟩ rfl rfl ?_
  rw [nst_0 h1]
  refine round_cut fun K1 hK1 hX1 _=>?_
  conv=>whnf
  refine ⟨_,ERead_l (hs.one rfl),?_⟩
  conv=>whnf
  refine hK1 _ _ ?_
  clear hK1 hX1
  refine round_next [(4,.one (.int .i64 25)),(3,.one (.ptr (some (.loc 1 0)))),(2,.one (.ptr (some (.loc 0 0)))),(0,.one (.slice (some (.ext a)) 32 cap))] ⟨[some ⟨[u 0,u 0,u 0,u 0],t_tollhouseref03_Num,0,false⟩,some ⟨[u (nst (0) l0 56),u (l1),u (l2),u (l3)],t_tollhouseref03_Num,0,false⟩],M0.N⟩ rfl rfl ?_
  rw [nst_56 h0]
  refine round_cut fun K1 hK1 hX1 _=>?_
  conv=>whnf
  refine ⟨_,ERead_l (hs.one rfl),?_⟩
  conv=>whnf
  refine hK1 _ _ ?_
  clear hK1 hX1
  refine round_next [(4,.one (.int .i64 26)),(3,.one (.ptr (some (.loc 1 0)))),(2,.one (.ptr (some (.loc 0 0)))),(0,.one (.slice (some (.ext a)) 32 cap))] ⟨[some ⟨[u 0,u 0,u 0,u 0],t_tollhouseref03_Num,0,false⟩,some ⟨[u (nst (l0/72057594037927936) l0 48),u (l1),u (l2),u (l3)],t_tollhouseref03_Num,0,false⟩],M0.N⟩ rfl rfl ?_
  rw [nst_48 h0]
  refine round_cut fun K1 hK1 hX1 _=>?_
  conv=>whnf
  refine ⟨_,ERead_l (hs.one rfl),?_⟩
  conv=>whnf
  refine hK1 _ _ ?_
  clear hK1 hX1
  refine round_next [(4,.one (.int .i64 27)),(3,.one (.ptr (some (.loc 1 0)))),(2,.one (.ptr (some (.loc 0 0)))),(0,.one (.slice (some (.ext a)) 32 cap))] ⟨[some ⟨[u 0,u 0,u 0,u 0],t_tollhouseref03_Num,0,false⟩,some ⟨[u (nst (l0/281474976710656) l0 40),u (l1),u (l2),u (l3)],t_tollhouseref03_Num,0,false⟩],M0.N⟩ rfl rfl ?_
  rw [nst_40 h0]
  refine round_cut fun K1 hK1 hX1 _=>?_
  conv=>whnf
  refine ⟨_,ERead_l (hs.one rfl),?_⟩
  conv=>whnf
  refine hK1 _ _ ?_
  clear hK1 hX1
  refine round_next [(4,.one (.int .i64 28)),(3,.one (.ptr (some (.loc 1 0)))),(2,.one (.ptr (some (.loc 0 0)))),(0,.one (.slice (some (.ext a)) 32 cap))] ⟨[some ⟨[u 0,u 0,u 0,u 0],t_tollhouseref03_Num,0,false⟩,some ⟨[u (nst (l0/1099511627776) l0 32),u (l1),u (l2),u (l3)],t_tollhouseref03_Num,0,false⟩],M0.N⟩ rfl rfl ?_
  rw [nst_32 h0]
  refine round_cut fun K1 hK1 hX1 _=>?_
  conv=>whnf
  refine ⟨_,ERead_l (hs.one rfl),?_⟩
  conv=>whnf
  refine hK1 _ _ ?_
  clear hK1 hX1
  refine round_next [(4,.one (.int .i64 29)),(3,.one (.ptr (some (.loc 1 0)))),(2,.one (.ptr (some (.loc 0 0)))),(0,.one (.slice (some (.ext a)) 32 cap))] ⟨[some ⟨[u 0,u 0,u 0,u 0],t_tollhouseref03_Num,0,false⟩,some ⟨[u (nst (l0/4294967296) l0 24),u (l1),u (l2),u (l3)],t_tollhouseref03_Num,0,false⟩],M0.N⟩ rfl rfl ?_
  rw [nst_24 h0]
  refine round_cut fun K1 hK1 hX1 _=>?_
  conv=>whnf
  refine ⟨_,ERead_l (hs.one rfl),?_⟩
  conv=>whnf
  refine hK1 _ _ ?_
  clear hK1 hX1
  refine round_next [(4,.one (.int .i64 30)),(3,.one (.ptr (some (.loc 1 0)))),(2,.one (.ptr (some (.loc 0 0)))),(0,.one (.slice (some (.ext a)) 32 cap))] ⟨[some ⟨[u 0,u 0,u 0,u 0],t_tollhouseref03_Num,0,false⟩,some ⟨[u (nst (l0/16777216) l0 16),u (l1),u (l2),u (l3)],t_tollhouseref03_Num,0,false⟩],M0.N⟩ rfl rfl ?_
  rw [nst_16 h0]
  refine round_cut fun K1 hK1 hX1 _=>?_
  conv=>whnf
  refine ⟨_,ERead_l (hs.one rfl),?_⟩
  conv=>whnf
  refine hK1 _ _ ?_
  clear hK1 hX1
  refine round_next [(4,.one (.int .i64 31)),(3,.one (.ptr (some (.loc 1 0)))),(2,.one (.ptr (some (.loc 0 0)))),(0,.one (.slice (some (.ext a)) 32 cap))] ⟨[some ⟨[u 0,u 0,u 0,u 0],t_tollhouseref03_Num,0,false⟩,some ⟨[u (nst (l0/65536) l0 8),u (l1),u (l2),u (l3)],t_tollhouseref03_Num,0,false⟩],M0.N⟩ rfl rfl ?_
  rw [nst_8 h0]
  refine round_cut fun K1 hK1 hX1 _=>?_
  conv=>whnf
  refine ⟨_,ERead_l (hs.one rfl),?_⟩
  conv=>whnf
  refine hK1 _ _ ?_
  clear hK1 hX1
  refine round_next [(4,.one (.int .i64 32)),(3,.one (.ptr (some (.loc 1 0)))),(2,.one (.ptr (some (.loc 0 0)))),(0,.one (.slice (some (.ext a)) 32 cap))] ⟨[some ⟨[u 0,u 0,u 0,u 0],t_tollhouseref03_Num,0,false⟩,some ⟨[u (nst (l0/256) l0 0),u (l1),u (l2),u (l3)],t_tollhouseref03_Num,0,false⟩],M0.N⟩ rfl rfl ?_
  rw [nst_0 h0]
  refine round_cut fun K1 hK1 hX1 _=>?_
  conv=>whnf
  refine hX1 _ _ _ ?_
  conv=>whnf
  refine hK _ _ ?_
  conv=>whnf
  intro c N2 _ _
  rw [W,words_val h0 h1 h2 h3]
  rfl

end Go.Hv

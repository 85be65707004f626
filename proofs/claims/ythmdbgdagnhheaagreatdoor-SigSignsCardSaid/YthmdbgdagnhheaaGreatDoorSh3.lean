import Derived.Test.YthmdbgdagnhheaaGreatDoorHvR
import Derived.Test.YthmdbgdagnhheaaGreatDoorSh1
namespace Go.Hv
open Go.Ev

def idx:List Nat→Nat→Option Nat
 | [],_=>none
 | a::r,b=>match Nat.beq a b with
  | true=>some 0
  | false=>match idx r b with
   | some i=>some (i+1)
   | none=>none

theorem idx_some:∀ {σ:List Nat} {b i:Nat},idx σ b=some i→σ[i]?=some b
 | [],b,i,h=>by cases h
 | a::r,b,i,h=>by
  unfold idx at h
  split at h
  ·rename_i hb
   have:=nbeq.1 hb
   subst this
   cases h
   rfl
  ·split at h
   ·rename_i j hj
    cases h
    have:=idx_some hj
    simpa using this
   ·cases h

theorem idx_lt {σ:List Nat} {b i:Nat} (h:idx σ b=some i):i<σ.length:=(List.getElem?_eq_some_iff.1 (idx_some h)).1

theorem idx_of:∀ {σ:List Nat} {b i:Nat},σ.Nodup→σ[i]?=some b→idx σ b=some i
 | [],b,i,_,h=>by simp at h
 | a::r,b,0,_,h=>by
  simp only [List.getElem?_cons_zero,Option.some.injEq] at h
  subst h
  simp [idx]
 | a::r,b,i+1,hn,h=>by
  simp only [List.getElem?_cons_succ] at h
  have hr:=(List.nodup_cons.1 hn)
  have hab:Nat.beq a b=false:=by
   cases hh:Nat.beq a b with
   | false=>rfl
   | true=>
    have:=nbeq.1 hh
    subst this
    exact absurd (List.mem_of_getElem? h) hr.1
  simp [idx,hab,idx_of hr.2 h]

def keepF (σ:List Nat) (b:Nat):Bool:=
 match idx σ b with
 | some _=>false
 | none=>true

def inR (σ:List Nat):Ren:=⟨fun b=>match idx σ b with | some i=>i | none=>0,id⟩

def toL (σ:List Nat) (M i:Nat):Nat:=
 match σ[i]? with
 | some b=>b
 | none=>M+(i-σ.length)

def outR (σ:List Nat) (M:Nat):Ren:=⟨toL σ M,id⟩

def rnB (F:Nat→Bool) (c:Con) (ρ:Ren):Option Blk→Option Blk
 | some x=>some ⟨rnL F c ρ x.cells,x.elem,x.es,x.grows⟩
 | none=>none

theorem rnB_some {F:Nat→Bool} {c:Con} {ρ:Ren} {o:Option Blk} {x:Blk} (h:rnB F c ρ o=some x):∃ y,o=some y∧x=⟨rnL F c ρ y.cells,y.elem,y.es,y.grows⟩:=by
 cases o with
 | none=>cases h
 | some y=>exact ⟨y,rfl,(Option.some.inj h).symm⟩

def mkA (σ:List Nat) (M:Nat) (ms:Mem):Nat→Mem→Mem
 | _,[]=>[]
 | b,x::r=>(match idx σ b with
  | some i=>rnB F0 Con0 (outR σ M) (nth ms i)
  | none=>x)::mkA σ M ms (b+1) r

def mkT (σ:List Nat) (M:Nat):Mem→Mem
 | []=>[]
 | x::r=>rnB F0 Con0 (outR σ M) x::mkT σ M r

def dropM:Nat→Mem→Mem
 | 0,l=>l
 | _+1,[]=>[]
 | n+1,_::r=>dropM n r

def mkL (σ:List Nat) (bs ms:Mem):Mem:=mkA σ bs.length ms 0 bs++mkT σ bs.length (dropM σ.length ms)

theorem mkA_len {σ:List Nat} {M:Nat} {ms:Mem}:∀ {bs:Mem} {k:Nat},(mkA σ M ms k bs).length=bs.length
 | [],_=>rfl
 | _::r,k=>by simp [mkA,mkA_len (bs:=r)]

theorem mkT_len {σ:List Nat} {M:Nat}:∀ {ms:Mem},(mkT σ M ms).length=ms.length
 | []=>rfl
 | _::r=>by simp [mkT,mkT_len (ms:=r)]

theorem dropM_len:∀ {n:Nat} {l:Mem},(dropM n l).length=l.length-n
 | 0,l=>by simp [dropM]
 | n+1,[]=>by simp [dropM]
 | n+1,_::r=>by simp [dropM,dropM_len (n:=n) (l:=r)]

theorem nth_dropM:∀ {n:Nat} {l:Mem} {b:Nat},nth (dropM n l) b=nth l (n+b)
 | 0,l,b=>by simp [dropM]
 | n+1,[],b=>by simp [dropM,nth]
 | n+1,_::r,b=>by
  rw [show n+1+b=(n+b)+1 by omega]
  simp only [dropM,nth]
  exact nth_dropM

theorem nth_mkA {σ:List Nat} {M:Nat} {ms:Mem}:∀ {bs:Mem} {k b:Nat},b<bs.length→nth (mkA σ M ms k bs) b=match idx σ (k+b) with | some i=>rnB F0 Con0 (outR σ M) (nth ms i) | none=>nth bs b
 | [],k,b,h=>by simp at h
 | x::r,k,0,h=>by simp only [mkA,nth,Nat.add_zero]
 | x::r,k,b+1,h=>by
  simp only [mkA,nth]
  rw [nth_mkA (by simpa using h),show k+1+b=k+(b+1) by omega]

theorem nth_mkT {σ:List Nat} {M:Nat}:∀ {ms:Mem} {b:Nat},nth (mkT σ M ms) b=rnB F0 Con0 (outR σ M) (nth ms b)
 | [],b=>rfl
 | x::r,0=>rfl
 | x::r,b+1=>by simp only [mkT,nth]; exact nth_mkT

theorem nth_app:∀ {a b:Mem} {i:Nat},nth (a++b) i=if i<a.length then nth a i else nth b (i-a.length)
 | [],b,i=>by simp
 | x::a,b,0=>by simp [nth]
 | x::a,b,i+1=>by
  simp only [List.cons_append,nth,List.length_cons,Nat.add_lt_add_iff_right,Nat.add_sub_add_right]
  exact nth_app

theorem mkL_len {σ:List Nat} {bs ms:Mem}:(mkL σ bs ms).length=bs.length+(ms.length-σ.length):=by
 unfold mkL
 rw [List.length_append,mkA_len,mkT_len,dropM_len]

theorem nth_mkL {σ:List Nat} {bs ms:Mem} {b:Nat}:nth (mkL σ bs ms) b=if b<bs.length then (match idx σ b with | some i=>rnB F0 Con0 (outR σ bs.length) (nth ms i) | none=>nth bs b) else rnB F0 Con0 (outR σ bs.length) (nth ms (σ.length+(b-bs.length))):=by
 unfold mkL
 rw [nth_app,mkA_len]
 split
 ·rename_i h
  rw [nth_mkA h,Nat.zero_add]
 ·rw [nth_mkT,nth_dropM]

section
variable {F:Nat→Bool} {c c1 c2:Con} {ρ:Ren}

theorem SP.rn_conc2 (h:∀ b,F b=false→c2.ι (ρ.to b)=c1.ι b∧c2.κ (ρ.to b)=c1.κ b) (hF:∀ b,F b=true→c.ι b=c1.ι b∧c.κ b=c1.κ b) {p:SP}:(SP.rn F c ρ p).conc c2=p.conc c1:=by
 cases p with
 | loc b o=>
  simp only [SP.rn]
  split
  ·rename_i hb
   simp only [SP.conc,(hF b hb).1]
  ·rename_i hb
   simp only [SP.conc,(h b hb).1]
 | ext a=>rfl

theorem Sc.rn_conc2 (h:∀ b,F b=false→c2.ι (ρ.to b)=c1.ι b∧c2.κ (ρ.to b)=c1.κ b) (hF:∀ b,F b=true→c.ι b=c1.ι b∧c.κ b=c1.κ b) {s:Sc}:(Sc.rn F c ρ s).conc c2=s.conc c1:=by
 cases s with
 | ptr p=>cases p with
  | none=>rfl
  | some p=>simp [Sc.rn,Sc.conc,SP.rn_conc2 h hF]
 | slice p l k=>cases p with
  | none=>rfl
  | some p=>simp [Sc.rn,Sc.conc,SP.rn_conc2 h hF]
 | buf b l=>
  simp only [Sc.rn]
  split
  ·rename_i hb
   simp only [Sc.conc,(hF b hb).1,(hF b hb).2]
   rfl
  ·rename_i hb
   simp only [Sc.conc,(h b hb).1,(h b hb).2]
 | _=>rfl

theorem rnL_conc2 (h:∀ b,F b=false→c2.ι (ρ.to b)=c1.ι b∧c2.κ (ρ.to b)=c1.κ b) (hF:∀ b,F b=true→c.ι b=c1.ι b∧c.κ b=c1.κ b):∀ {l:List Sc},(rnL F c ρ l).map (Sc.conc c2)=l.map (Sc.conc c1)
 | []=>rfl
 | s::l=>by simp [rnL,Sc.rn_conc2 h hF,rnL_conc2 h hF (l:=l)]

theorem TC.rn_conc2 (h:∀ b,F b=false→c2.ι (ρ.to b)=c1.ι b∧c2.κ (ρ.to b)=c1.κ b) (hF:∀ b,F b=true→c.ι b=c1.ι b∧c.κ b=c1.κ b) {v:TC}:(TC.rn F c ρ v).conc c2=v.conc c1:=by
 cases v with
 | one s=>exact Sc.rn_conc2 h hF
 | agg l=>simp [TC.rn,TC.conc,rnL_conc2 h hF]

theorem rnT_conc2 (h:∀ b,F b=false→c2.ι (ρ.to b)=c1.ι b∧c2.κ (ρ.to b)=c1.κ b) (hF:∀ b,F b=true→c.ι b=c1.ι b∧c.κ b=c1.κ b):∀ {l:List TC},(rnT F c ρ l).map (TC.conc c2)=l.map (TC.conc c1)
 | []=>rfl
 | s::l=>by simp [rnT,TC.rn_conc2 h hF,rnT_conc2 h hF (l:=l)]

theorem TV.rn_conc2 (h:∀ b,F b=false→c2.ι (ρ.to b)=c1.ι b∧c2.κ (ρ.to b)=c1.κ b) (hF:∀ b,F b=true→c.ι b=c1.ι b∧c.κ b=c1.κ b) {v:TV}:(TV.rn F c ρ v).conc c2=v.conc c1:=by
 cases v with
 | one s=>exact Sc.rn_conc2 h hF
 | agg l=>simp [TV.rn,TV.conc,rnL_conc2 h hF]
 | tup l=>simp [TV.rn,TV.conc,rnT_conc2 h hF]

theorem blt_iff {a b:Nat}:Nat.blt a b=true↔a<b:=by simp [Nat.blt]; omega

theorem SP.rn_closed {n n':Nat} (h:∀ b,b<n→F b=false→ρ.to b<n') {p:SP} (hp:p.closed n=true):(SP.rn F c ρ p).closed n'=true:=by
 cases p with
 | loc b o=>
  simp only [SP.rn]
  split
  ·rfl
  ·rename_i hb
   exact blt_iff.2 (h b (blt_iff.1 hp) hb)
 | ext a=>rfl

theorem Sc.rn_closed {n n':Nat} (h:∀ b,b<n→F b=false→ρ.to b<n') {s:Sc} (hs:s.closed n=true):(Sc.rn F c ρ s).closed n'=true:=by
 cases s with
 | ptr p=>cases p with
  | none=>rfl
  | some p=>exact SP.rn_closed h hs
 | slice p l k=>cases p with
  | none=>rfl
  | some p=>exact SP.rn_closed h hs
 | buf b l=>
  simp only [Sc.rn]
  split
  ·rfl
  ·rename_i hb
   exact blt_iff.2 (h b (blt_iff.1 hs) hb)
 | _=>exact hs

theorem rnL_closed {n n':Nat} (h:∀ b,b<n→F b=false→ρ.to b<n'):∀ {l:List Sc},closedL n l=true→closedL n' (rnL F c ρ l)=true
 | [],_=>rfl
 | s::l,hl=>by
  have h1:=closedL_iff.1 hl
  refine closedL_iff.2 fun x hx=>?_
  simp only [rnL,List.mem_cons] at hx
  rcases hx with rfl | hx
  ·exact Sc.rn_closed h (h1 s (by simp))
  ·exact closedL_iff.1 (rnL_closed h (l:=l) (closedL_iff.2 fun y hy=>h1 y (by simp [hy]))) x hx

theorem TC.rn_closed {n n':Nat} (h:∀ b,b<n→F b=false→ρ.to b<n') {v:TC} (hv:v.closed n=true):(TC.rn F c ρ v).closed n'=true:=by
 cases v with
 | one s=>exact Sc.rn_closed h hv
 | agg l=>exact rnL_closed h hv

theorem rnT_closed {n n':Nat} (h:∀ b,b<n→F b=false→ρ.to b<n'):∀ {l:List TC},closedT n l=true→closedT n' (rnT F c ρ l)=true
 | [],_=>rfl
 | s::l,hl=>by
  have h1:=closedT_iff.1 hl
  refine closedT_iff.2 fun x hx=>?_
  simp only [rnT,List.mem_cons] at hx
  rcases hx with rfl | hx
  ·exact TC.rn_closed h (h1 s (by simp))
  ·exact closedT_iff.1 (rnT_closed h (l:=l) (closedT_iff.2 fun y hy=>h1 y (by simp [hy]))) x hx

theorem TV.rn_closed {n n':Nat} (h:∀ b,b<n→F b=false→ρ.to b<n') {v:TV} (hv:v.closed n=true):(TV.rn F c ρ v).closed n'=true:=by
 cases v with
 | one s=>exact Sc.rn_closed h hv
 | agg l=>exact rnL_closed h hv
 | tup l=>exact rnT_closed h hv

end

theorem CALL.lend {P:Program} {A:Base} {f:FuncId} {args:List TV} {m:HM} {ms:Mem} {K0:TV→HM→Prop} (σ:List Nat) (hnd:σ.Nodup) (hσ:∀ b∈σ,b<m.bs.length) (hlen:ms.length=σ.length) (hent:Enters P f)
  (hms:∀ (c:Con) (i b:Nat),σ[i]?=some b→nth ms i=rnB (keepF σ) c (inR σ) (nth m.bs b))
  (hcall:∀ (c:Con) (B:Base),Base.le (A.or m.N) B→Frozen (keepF σ) c B m.bs→CALL P B f (args.map (TV.rn (keepF σ) c (inR σ))) ⟨ms,B0⟩ K0) :
  CALL P A f args m fun v m'=>∃ v0 ms',K0 v0 ms'∧v=TV.rn F0 Con0 (outR σ m.bs.length) v0∧m'=⟨mkL σ m.bs ms'.bs,m.N.or ms'.N⟩:=by
 refine ⟨hent,fun c w hr hcl=>?_⟩
 have hB1:Base.le (A.or m.N) (A.or (fzN (keepF σ) c m w)):=fun r o h=>h.elim .inl fun h=>.inr (.inl h)
 have hFz:Frozen (keepF σ) c (A.or (fzN (keepF σ) c m w)) m.bs:=fun b x hF hx=>by
  obtain ⟨junk,h⟩:=frozen_fzN (F:=keepF σ) hr b x hF hx
  exact ⟨junk,.inr h⟩
 generalize hM:m.bs.length=M at *
 let cs:Con:=⟨fun i=>c.ι (toL σ M i),fun i=>c.κ (toL σ M i)⟩
 have kF:∀ {b},keepF σ b=false→∃ i,idx σ b=some i∧σ[i]?=some b∧i<σ.length:=fun {b} h=>by
  unfold keepF at h
  split at h
  ·rename_i i hi
   exact ⟨i,hi,idx_some hi,idx_lt hi⟩
  ·cases h
 have kT:∀ {b},keepF σ b=true→idx σ b=none:=fun {b} h=>by
  unfold keepF at h
  split at h
  ·cases h
  ·assumption
 have kN:∀ {b},idx σ b=none→keepF σ b=true:=fun {b} h=>by unfold keepF; rw [h]
 have toS:∀ {i b},σ[i]?=some b→toL σ M i=b:=fun {i b} h=>by unfold toL; rw [h]
 have toN:∀ {i},σ.length≤i→toL σ M i=M+(i-σ.length):=fun {i} h=>by
  unfold toL
  rw [List.getElem?_eq_none h]
 have inC:∀ b,keepF σ b=false→cs.ι ((inR σ).to b)=c.ι b∧cs.κ ((inR σ).to b)=c.κ b:=fun b hb=>by
  obtain ⟨i,h1,h2,_⟩:=kF hb
  simp only [inR,h1,cs,toS h2,and_self]
 have smallOld:∀ {i x},nth ms i=some x→∃ b y,σ[i]?=some b∧nth m.bs b=some y∧b<M∧x=⟨rnL (keepF σ) c (inR σ) y.cells,y.elem,y.es,y.grows⟩∧cs.ι i=c.ι b:=fun {i x} hx=>by
  have hi:i<σ.length:=by rw [← hlen]; exact nth_lt hx
  have hb:σ[i]?=some σ[i]:=List.getElem?_eq_getElem hi
  rw [hms c i _ hb] at hx
  obtain ⟨y,hy,rfl⟩:=rnB_some hx
  exact ⟨_,y,hb,hy,by rw [← hM]; exact nth_lt hy,rfl,by simp only [cs,toS hb]⟩
 have hrs:Rel (A.or (fzN (keepF σ) c m w)) cs ⟨ms,B0⟩ w:=by
  refine ⟨fun i x hx=>?_,fun i x hx=>?_,fun i j x y hx hy he=>?_,fun i hi=>?_,fun r o h=>?_,fun r o h=>h.elim,fun i x o hx h=>?_,fun i x o hx h=>h⟩
  ·obtain ⟨b,y,hb,hy,_,rfl,hι⟩:=smallOld hx
   obtain ⟨junk,h1,h2,h3⟩:=hr.blk b y hy
   refine ⟨junk,?_,h2,fun hg=>?_⟩
   ·rw [hι,h1,rnL_conc2 (c1:=c) inC (fun _ _=>⟨rfl,rfl⟩)]
   ·simp only [rnL_length]; exact h3 hg
  ·obtain ⟨b,y,hb,hy,_,rfl,hι⟩:=smallOld hx
   refine rnL_closed (fun d hd hF=>?_) (hr.cl b y hy)
   obtain ⟨i',h1,_,h3⟩:=kF hF
   simp only [inR,h1]
   rw [hlen]; exact h3
  ·obtain ⟨b,y1,hb,hy1,_,_,hι⟩:=smallOld hx
   obtain ⟨d,y2,hd,hy2,_,_,hκ⟩:=smallOld hy
   have hbd:b=d:=hr.inj b d y1 y2 hy1 hy2 (by rw [← hι,← hκ]; exact he)
   subst hbd
   have e1:=idx_of hnd hb
   rw [idx_of hnd hd] at e1
   exact (Option.some.inj e1).symm
  ·have hi':i<σ.length:=by rw [← hlen]; exact hi
   have hb:σ[i]?=some σ[i]:=List.getElem?_eq_getElem hi'
   show c.ι (toL σ M i)<_
   rw [toS hb]
   exact hr.lt _ (by rw [hM]; exact hσ _ (List.getElem_mem hi'))
  ·rcases h with h | h | ⟨_,_,_,_,_,h⟩
   ·exact hr.baseA r o h
   ·exact hr.baseN r o h
   ·exact h
  ·obtain ⟨b,y,hb,hy,_,_,hι⟩:=smallOld hx
   rw [hι] at h
   rcases h with h | h | ⟨d,z,hF,hz,he,_⟩
   ·exact hr.sepA b y o hy h
   ·exact hr.sepN b y o hy h
   ·have:=hr.inj d b z y hz hy he
    subst this
    have:=kT hF
    rw [idx_of hnd hb] at this
    cases this
 have hargs:∀ v∈args.map (TV.rn (keepF σ) c (inR σ)),v.closed ms.length=true:=fun v hv=>by
  obtain ⟨u,hu,rfl⟩:=List.mem_map.1 hv
  refine TV.rn_closed (fun d hd hF=>?_) (hcl u hu)
  obtain ⟨i',h1,_,h3⟩:=kF hF
  simp only [inR,h1]
  rw [hlen]; exact h3
 have hcs:=(hcall c _ hB1 hFz).2 cs w hrs hargs
 have eargs:(args.map (TV.rn (keepF σ) c (inR σ))).map (TV.conc cs)=args.map (TV.conc c):=by
  rw [List.map_map]
  exact List.map_congr_left fun v _=>TV.rn_conc2 (c1:=c) inC (fun _ _=>⟨rfl,rfl⟩)
 rw [eargs] at hcs
 refine hcs.mono fun e w' hh=>?_
 obtain ⟨v0,ms',c0,h1,h2,h3,h4,h5⟩:=hh
 let c':Con:=⟨fun b=>match idx σ b with | some i=>c0.ι i | none=>if b<M then c.ι b else c0.ι (σ.length+(b-M)),
  fun b=>match idx σ b with | some i=>c0.κ i | none=>if b<M then c.κ b else c0.κ (σ.length+(b-M))⟩
 have hk:σ.length≤ms'.bs.length:=by have:=h3.le; rw [← hlen]; exact this
 have outC:∀ i,F0 i=false→c'.ι ((outR σ M).to i)=c0.ι i∧c'.κ ((outR σ M).to i)=c0.κ i:=fun i _=>by
  rcases Nat.lt_or_ge i σ.length with hi | hi
  ·have hb:σ[i]?=some σ[i]:=List.getElem?_eq_getElem hi
   simp only [outR,toS hb,c',idx_of hnd hb,and_self]
  ·have hn:idx σ (M+(i-σ.length))=none:=by
    cases hh:idx σ (M+(i-σ.length)) with
    | none=>rfl
    | some j=>
     have:=hσ _ (List.mem_of_getElem? (idx_some hh))
     omega
   have e:σ.length+(M+(i-σ.length)-M)=i:=by omega
   simp only [outR,toN hi,c',hn,Nat.not_lt.2 (Nat.le_add_right M _),if_false,e,and_self]
 have agr:∀ b,b<M→c'.ι b=c.ι b∧c'.κ b=c.κ b:=fun b hb=>by
  simp only [c']
  cases hh:idx σ b with
  | none=>simp [hb]
  | some i=>
   have hs:=idx_some hh
   have:=h3.agree i (by show i<ms.length; rw [hlen]; exact idx_lt hh)
   simp only [this.1,this.2,cs,toS hs,and_self]
 have len':(mkL σ m.bs ms'.bs).length=M+(ms'.bs.length-σ.length):=by rw [mkL_len,hM]
 have outLt:∀ i,i<ms'.bs.length→(outR σ M).to i<(mkL σ m.bs ms'.bs).length:=fun i hi=>by
  rw [len']
  rcases Nat.lt_or_ge i σ.length with h | h
  ·have hb:σ[i]?=some σ[i]:=List.getElem?_eq_getElem h
   have:=hσ _ (List.getElem_mem h)
   simp only [outR,toS hb]
   omega
  ·simp only [outR,toN h]
   omega
 have cases':∀ {b x},nth (mkL σ m.bs ms'.bs) b=some x→(b<M∧idx σ b=none∧nth m.bs b=some x∧c'.ι b=c.ι b) ∨
   (∃ i y,nth ms'.bs i=some y∧x=⟨rnL F0 Con0 (outR σ M) y.cells,y.elem,y.es,y.grows⟩∧b=toL σ M i∧c'.ι b=c0.ι i∧c'.κ b=c0.κ i):=fun {b x} hx=>by
  rw [nth_mkL,hM] at hx
  split at hx
  ·rename_i hb
   split at hx
   ·rename_i i hi
    obtain ⟨y,hy,rfl⟩:=rnB_some hx
    have e:b=toL σ M i:=(toS (idx_some hi)).symm
    have:=outC i rfl
    refine .inr ⟨i,y,hy,rfl,e,?_,?_⟩
    ·rw [e]; exact this.1
    ·rw [e]; exact this.2
   ·rename_i hn
    exact .inl ⟨hb,hn,hx,(agr b hb).1⟩
  ·rename_i hb
   obtain ⟨y,hy,rfl⟩:=rnB_some hx
   have e:b=toL σ M (σ.length+(b-M)):=by rw [toN (Nat.le_add_right _ _)]; omega
   have:=outC (σ.length+(b-M)) rfl
   refine .inr ⟨_,y,hy,rfl,e,?_,?_⟩
   ·rw [e]
    have e2:=this.1
    simp only [outR] at e2
    rw [e2,← e]
   ·rw [e]
    have e2:=this.2
    simp only [outR] at e2
    rw [e2,← e]
 have frozeO:∀ {b x},idx σ b=none→nth m.bs b=some x→∃ o,(A.or (fzN (keepF σ) c m w)) (c.ι b) o∧w.heap[c.ι b]?=some o:=fun {b x} hn hx=>by
  obtain ⟨junk,h,_⟩:=hr.blk b x hx
  exact ⟨_,.inr (.inr ⟨b,x,kN hn,hx,rfl,h⟩),h⟩
 refine ⟨TV.rn F0 Con0 (outR σ M) v0,⟨mkL σ m.bs ms'.bs,m.N.or ms'.N⟩,c',?_,?_,?_,TV.rn_closed (fun i hi _=>outLt i hi) h4,v0,ms',h5,rfl,rfl⟩
 ·rw [h1,TV.rn_conc2 (c1:=c0) outC (fun _ h=>by cases h)]
 ·refine ⟨fun b x hx=>?_,fun b x hx=>?_,fun a b x y hx hy he=>?_,fun b hb=>?_,fun r o h=>h2.baseA r o (.inl h),fun r o h=>?_,fun b x o hx h=>?_,fun b x o hx h=>?_⟩
  ·rcases cases' hx with ⟨hb,hn,hx',hι⟩ | ⟨i,y,hy,rfl,hbe,hι,hκ⟩
   ·obtain ⟨junk,g1,g2,g3⟩:=hr.blk b x hx'
    refine ⟨junk,?_,g2,g3⟩
    have hkeep:=h2.baseA (c.ι b) _ (.inr (.inr ⟨b,x,kN hn,hx',rfl,g1⟩))
    rw [hι,hkeep]
    have:x.cells.map (Sc.conc c')=x.cells.map (Sc.conc c):=List.map_congr_left fun s hs=>Sc.conc_agree (n:=M) agr (by rw [← hM]; exact closedL_iff.1 (hr.cl b x hx') s hs)
    rw [this]
   ·obtain ⟨junk,g1,g2,g3⟩:=h2.blk i y hy
    refine ⟨junk,?_,g2,fun hg=>?_⟩
    ·rw [hι,g1,rnL_conc2 (c1:=c0) outC (fun _ h=>by cases h)]
    ·simp only [rnL_length]; exact g3 hg
  ·rcases cases' hx with ⟨hb,hn,hx',hι⟩ | ⟨i,y,hy,rfl,hbe,hι,hκ⟩
   ·refine closedL_mono ?_ (hr.cl b x hx')
    show m.bs.length≤(mkL σ m.bs ms'.bs).length
    rw [len',hM]; omega
   ·exact rnL_closed (fun j hj _=>outLt j hj) (h2.cl i y hy)
  ·rcases cases' hx with ⟨hb,hn,hx',hι⟩ | ⟨i,y1,hy1,_,hbe,hι,_⟩
   ·rcases cases' hy with ⟨hb2,hn2,hy',hι2⟩ | ⟨j,y2,hy2,_,hbe2,hι2,_⟩
    ·exact hr.inj a b x y hx' hy' (by rw [← hι,← hι2]; exact he)
    ·obtain ⟨o,ho,_⟩:=frozeO hn hx'
     rw [← hι,he,hι2] at ho
     exact absurd ho (h2.sepA j y2 o hy2)
   ·rcases cases' hy with ⟨hb2,hn2,hy',hι2⟩ | ⟨j,y2,hy2,_,hbe2,hι2,_⟩
    ·obtain ⟨o,ho,_⟩:=frozeO hn2 hy'
     rw [← hι2,← he,hι] at ho
     exact absurd ho (h2.sepA i y1 o hy1)
    ·have:=h2.inj i j y1 y2 hy1 hy2 (by rw [← hι,← hι2]; exact he)
     subst this
     rw [hbe,hbe2]
  ·have hsz:=h3.same.size
   have hb':b<M+(ms'.bs.length-σ.length):=by rw [← len']; exact hb
   show c'.ι b<_
   simp only [c']
   split
   ·rename_i i hi
    exact h2.lt i (Nat.lt_of_lt_of_le (idx_lt hi) hk)
   ·split
    ·rename_i hlt
     exact Nat.lt_of_lt_of_le (hr.lt b (by rw [hM]; exact hlt)) hsz
    ·exact h2.lt _ (by omega)
  ·rcases h with h | h
   ·exact h2.baseA r o (.inr (.inl h))
   ·exact h2.baseN r o h
  ·rcases cases' hx with ⟨hb,hn,hx',hι⟩ | ⟨i,y,hy,_,hbe,hι,_⟩
   ·rw [hι] at h
    exact hr.sepA b x o hx' h
   ·rw [hι] at h
    exact h2.sepA i y o hy (.inl h)
  ·rcases cases' hx with ⟨hb,hn,hx',hι⟩ | ⟨i,y,hy,_,hbe,hι,_⟩
   ·rw [hι] at h
    rcases h with h | h
    ·exact hr.sepN b x o hx' h
    ·rcases h3.newN _ _ h with h | h | ⟨d,z,hz,he⟩
     ·exact h
     ·have:=hr.lt b (by rw [hM]; exact hb)
      omega
     ·obtain ⟨b2,y2,hb2,hy2,_,_,hι2⟩:=smallOld hz
      have:=hr.inj b2 b y2 x hy2 hx' (by rw [← hι2]; exact he)
      subst this
      rw [idx_of hnd hb2] at hn
      cases hn
   ·rw [hι] at h
    rcases h with h | h
    ·exact h2.sepA i y o hy (.inr (.inl h))
    ·exact h2.sepN i y o hy h
 ·have sm:∀ {i x},nth ms i=some x→∃ b y,nth m.bs b=some y∧cs.ι i=c.ι b:=fun hx=>by
   obtain ⟨b,y,_,hy,_,_,hι⟩:=smallOld hx
   exact ⟨b,y,hy,hι⟩
  refine ⟨?_,fun b hb=>agr b (by rw [← hM]; exact hb),h3.same,fun r hlt hno=>h3.keep r hlt fun i x hx=>?_,fun b x hx hge=>?_,fun b x hx hlt=>?_,fun r o h=>?_⟩
  ·show m.bs.length≤(mkL σ m.bs ms'.bs).length
   rw [len',hM]; omega
  ·obtain ⟨b,y,hy,hι⟩:=sm hx
   rw [hι]
   exact hno b y hy
  ·rcases cases' hx with ⟨hb,_⟩ | ⟨i,y,hy,_,hbe,hι,_⟩
   ·omega
   ·have hi:σ.length≤i:=by
     rcases Nat.lt_or_ge i σ.length with hi | hi
     ·have hs:σ[i]?=some σ[i]:=List.getElem?_eq_getElem hi
      have:=hσ _ (List.getElem_mem hi)
      rw [toS hs] at hbe
      omega
     ·exact hi
    rw [hι]
    rcases h3.fresh i y hy (by show ms.length≤i; rw [hlen]; exact hi) with h | ⟨d,z,hz,he⟩
    ·exact .inl h
    ·obtain ⟨b2,y2,hy2,hι2⟩:=sm hz
     exact .inr ⟨b2,y2,hy2,by rw [he,hι2]⟩
  ·rw [hM] at hlt
   rcases cases' hx with ⟨_,_,hx',_⟩ | ⟨i,y,hy,_,hbe,_,_⟩
   ·exact ⟨x,hx'⟩
   ·rcases Nat.lt_or_ge i σ.length with hi | hi
    ·obtain ⟨z,hz⟩:=h3.live i y hy (by show i<ms.length; rw [hlen]; exact hi)
     obtain ⟨b2,y2,hb2,hy2,_⟩:=smallOld hz
     rw [toS hb2] at hbe
     subst hbe
     exact ⟨y2,hy2⟩
    ·rw [toN hi] at hbe
     omega
  ·rcases h with h | h
   ·exact .inl h
   ·rcases h3.newN r o h with h | h | ⟨d,z,hz,he⟩
    ·exact h.elim
    ·exact .inr (.inl h)
    ·obtain ⟨b2,y2,hy2,hι2⟩:=sm hz
     exact .inr (.inr ⟨b2,y2,hy2,by rw [← hι2]; exact he⟩)

end Go.Hv

namespace Go.Hv
open Go.Ev

theorem call_start {A:Base} {f:FuncId} {fn:Func} {args:List TV} {m:HM} {K:TV→HM→Prop} (ord:Nat→Option (List Nat)) (hf:PG.funcs[f]?=some fn)
  (hb : fn.body = some (bodyOf fn)) (hn : (fn.name == "runtime.NumGoroutine") = false) (hk : okCode (HHo A ord) fn.ntmps (bodyOf fn) = true)
  (h:swpC (HHo A ord) (bodyOf fn) (post (HHo A ord) fn.results K) (ienv 0 args) m):CALL PG A f args m K:=
 call_of_swp (gH A ord) hf hb hn hk (swpC_imp _ (fun _ _ _ h=>h) h)

abbrev u8s (X:List Int):List Sc:=X.map (Sc.int .u8)

theorem Sl.has {A:Base} {m:HM} {p:Option SP} {n cap:Nat} {l:List Sc} (h:Sl A 1 (.one (.slice p n cap)) (ones l)) (hn:n=l.length):SliceHas A m (.one (.slice p n cap)) (n*1) l:=by
 obtain ⟨p',cap',e,h2,h3,h4⟩:=h
 simp only [TV.one.injEq,Sc.slice.injEq] at e
 obtain ⟨rfl,_,rfl⟩:=e
 match p,h4 with
 | none,h4=>
  have:=h4.1
  simp only [ones,List.map_eq_nil_iff] at this
  exact this
 | some (.ext a),h4=>
  refine ⟨by rw [hn,Nat.mul_one],closedL_iff.2 fun s hs=>?_,fun i s hi=>?_⟩
  ·obtain ⟨i,hi⟩:=List.getElem?_of_mem hs
   have:=(h3 [s] (List.mem_of_getElem? (onesGet hi))).2
   exact closedL_iff.1 this s (by simp)
  ·have:=h4.2 i [s] 0 s (onesGet hi) rfl
   rw [Nat.mul_one,Nat.add_zero] at this
   exact bcell_le (Base.le_l A m.N) this

theorem u8s_len (X:List Int):(ones (u8s X)).length=X.length:=by rw [ones_len,List.length_map]

theorem Sl.fst {A:Base} {a:Addr} {n cap k:Nat} {X:List Int} (h:Sl A 1 (.one (.slice (some (.ext a)) n cap)) (ones (u8s X))) (hk:k≤X.length):Sl A 1 (.one (.slice (some (.ext a)) k cap)) (ones (u8s (X.take k))):=by
 obtain ⟨p',cap',e,h2,h3,h4⟩:=h
 simp only [TV.one.injEq,Sc.slice.injEq] at e
 obtain ⟨rfl,_,rfl⟩:=e
 rw [u8s_len] at h2
 have hl:(X.take k).length=k:=by rw [List.length_take]; omega
 have hmem:∀ {i:Nat} {x:List Sc},(ones (u8s (X.take k)))[i]?=some x→(ones (u8s X))[i]?=some x:=fun {i x} hi=>by
  have hlt:=(List.getElem?_eq_some_iff.1 hi).1
  rw [u8s_len,hl] at hlt
  simp only [ones,u8s,List.getElem?_map,List.getElem?_take_of_lt hlt] at hi ⊢
  exact hi
 refine ⟨some (.ext a),cap,by rw [u8s_len,hl],⟨by rw [u8s_len,hl]; omega,by rw [u8s_len,hl]; omega⟩,fun x hx=>?_,h4.1,fun i x j s hi hj=>h4.2 i x j s (hmem hi) hj⟩
 obtain ⟨i,hi⟩:=List.getElem?_of_mem hx
 exact h3 x (List.mem_of_getElem? (hmem hi))

theorem Sl.rest {A:Base} {a:Addr} {n cap k:Nat} {X:List Int} (h:Sl A 1 (.one (.slice (some (.ext a)) n cap)) (ones (u8s X))) (hk:k≤X.length):Sl A 1 (.one (.slice (some (.ext (a.add k))) (X.length-k) (cap-k))) (ones (u8s (X.drop k))):=by
 obtain ⟨p',cap',e,h2,h3,h4⟩:=h
 simp only [TV.one.injEq,Sc.slice.injEq] at e
 obtain ⟨rfl,_,rfl⟩:=e
 rw [u8s_len] at h2
 have hl:(X.drop k).length=X.length-k:=by rw [List.length_drop]
 have hmem:∀ {i:Nat} {x:List Sc},(ones (u8s (X.drop k)))[i]?=some x→(ones (u8s X))[k+i]?=some x:=fun {i x} hi=>by
  simp only [ones,u8s,List.getElem?_map,List.getElem?_drop] at hi ⊢
  exact hi
 refine ⟨some (.ext (a.add k)),cap-k,by rw [u8s_len,hl],⟨by rw [u8s_len,hl]; omega,by rw [u8s_len,hl]; omega⟩,fun x hx=>?_,?_,fun i x j s hi hj=>?_⟩
 ·obtain ⟨i,hi⟩:=List.getElem?_of_mem hx
  exact h3 x (List.mem_of_getElem? (hmem hi))
 ·have:=h4.1
  obtain ⟨b,o,s⟩:=a
  simp only at this
  subst this
  rw [addr_off]
 ·have:=h4.2 (k+i) x j s (hmem hi) hj
  rw [addr_add_add a h4.1,show k+(i*1+j)=(k+i)*1+j by omega]
  exact this

theorem Sl.nil0 {A:Base} {a:Addr} {n cap:Nat} {L:List (List Sc)} (h:Sl A 1 (.one (.slice (some (.ext a)) n cap)) L):Sl A 1 (.one (.slice (some (.ext a)) 0 0)) (ones (u8s [])):=by
 obtain ⟨p',cap',e,h2,h3,h4⟩:=h
 simp only [TV.one.injEq,Sc.slice.injEq] at e
 obtain ⟨rfl,_,rfl⟩:=e
 exact ⟨some (.ext a),0,rfl,⟨Nat.le_refl _,by simp [ones]⟩,fun x hx=>(by cases hx),h4.1,fun i x j s hi=>by simp [ones] at hi⟩

theorem addr_zero {a:Addr} (h:a.spot=none):a.add 0=a:=by
 obtain ⟨b,o,s⟩:=a
 simp only at h
 subst h
 rw [addr_off,Nat.add_zero]

def hcells (s:S8) (r:Sc) (n:Nat):List Sc:=s.cells++[r,.int .i64 (n:Int)]

theorem begun_fn:Ev.Fn PG f_sha_begun [] (.agg begun8.cells):=by
 refine fn_startH (fun _=>none) h_sha_begun rfl (by kernel_rfl) (fun _=>by kernel_rfl) rfl rfl fun A=>?_
 conv=>whnf
 intro c N _ _
 rfl

theorem new_call {A:Base}:CALL PG A f_sha_New [] ⟨[],B0⟩ fun v m'=>v=.one (.ptr (some (.loc 0 0)))∧∃ t,m'=⟨[some ⟨hcells begun8 (.slice none 0 0) 0,t,0,false⟩],B0⟩:=by
 refine call_start (fun _=>none) h_sha_New rfl (by kernel_rfl) (by kernel_rfl) ?_
 have b:=begun_fn
 conv=>whnf
 refine ⟨_,b,rfl,?_⟩
 conv=>whnf
 exact ⟨rfl,_,rfl⟩

def runP (X:List Int) (s:S8):Nat→S8
 | 0=>s
 | j+1=>mix (fun i=>((X.drop (64*j)).take 64).getD i 0) (runP X s j)

theorem write_ok:∀ A,okCode (HHo A fun _=>none) F_sha_Hash_Write.ntmps (bodyOf F_sha_Hash_Write)=true:=fun _=>by kernel_rfl

def WrI (A:Base) (X:List Int) (s:S8) (n':Nat) (pre:Mem) (k:Nat) (e:Env) (m:HM):Prop:=
 ∃ (j t cap:Nat) (p:Option SP) (N:Base),64*j≤X.length∧k=X.length-64*j∧Sl A 1 (.one (.slice p (X.length-64*j) cap)) (ones (u8s (X.drop (64*j)))) ∧
  e=[(1,.one (.slice p (X.length-64*j) cap)),(0,.one (.ptr (some (.loc 0 0))))]∧m=⟨some ⟨hcells (runP X s j) (.slice none 0 0) n',t,0,false⟩::pre,N⟩

def WrK (X:List Int) (s:S8) (n':Nat) (v:TV) (m':HM):Prop:=
 v=.tup []∧((X.length%64=0∧∃ t N,m'=⟨[some ⟨hcells (runP X s (X.length/64)) (.slice none 0 0) n',t,0,false⟩],N⟩) ∨
  (X.length%64≠0∧∃ t cap N,X.length%64≤cap∧m'=⟨[some ⟨hcells (runP X s (X.length/64)) (.slice (some (.loc 1 0)) (X.length%64) cap) n',t,0,false⟩,some ⟨u8s (X.drop (64*(X.length/64))),t_uint8,cap*1,true⟩],N⟩))

set_option maxHeartbeats 1000000 in
set_option maxRecDepth 100000 in
theorem write_nil {A:Base} {s:S8} {n t cap:Nat} {p:Option SP} {X:List Int} (hTb:Tab A) (hs:Sl A 1 (.one (.slice p X.length cap)) (ones (u8s X))) (hn:n+X.length<9223372036854775808) (hX:X.length≤140737488360000) :
  CALL PG A f_sha_Hash_Write [.one (.ptr (some (.loc 0 0))),.one (.slice p X.length cap)] ⟨[some ⟨hcells s (.slice none 0 0) n,t,0,false⟩],B0⟩ (WrK X s (n+X.length)):=by
 refine call_start (fun _=>none) h_sha_Hash_Write rfl (by kernel_rfl) (write_ok A) ?_
 have hw:wr .i64 ((n:Int)+(X.length:Int))=.int .i64 ((n+X.length:Nat):Int):=by
  simp only [wr]
  rw [wrapN (n:=n+X.length) (by omega) hn]
 refine swp_cut fun K hK hR _=>?_
 iterate 6 (refine aops_step fun T S hT hS=>?_; (conv=>whnf); refine hT _ _ ?_)
 refine aops_step fun T S hT hS=>?_
 conv=>whnf
 rw [hw]
 refine hT _ _ ?_
 iterate 3 (refine aops_step fun T S hT hS=>?_; (conv=>whnf); refine hT _ _ ?_)
 refine aops_end ?_
 refine hK _ _ ?_
 clear hK hR
 refine swp_cut fun K hK hR _=>?_
 conv=>whnf
 refine hK _ _ ?_
 clear hK hR
 refine swp_cut fun K hK hR _=>?_
 conv=>whnf
 refine .inr (loop_invC (gH A _) (WrI A X s (n+X.length) []) ?_ ?_)
 ·intro k' e' m' hI
  obtain ⟨j,t,cap,p,N,hj,rfl,hs,rfl,rfl⟩:=hI
  obtain ⟨g1,g2,g3⟩:=hs.stable
  conv=>whnf
  cases hlt:decide (((X.length-64*j:Nat):Int) ≥ 64) with
  | true=>
   have hlt:64≤X.length-64*j:=by have:=of_decide_eq_true hlt; omega
   obtain ⟨a,rfl⟩:=sl_ext' hs (by rw [u8s_len,List.length_drop]; omega)
   have hcap:X.length-64*j≤cap:=by
    obtain ⟨p',cap',e,h2,h3,h4⟩:=hs
    simp only [TV.one.injEq,Sc.slice.injEq] at e
    rw [u8s_len,List.length_drop] at h2
    omega
   show swpC _ (Code.seq _ _) _ _ _
   refine swp_cut fun K4 hK4 hR4 _=>?_
   have hsp:a.spot=none:=by
    obtain ⟨p',cap',e,h2,h3,h4⟩:=hs
    simp only [TV.one.injEq,Sc.slice.injEq] at e
    obtain ⟨rfl,_,rfl⟩:=e
    exact h4.1
   have hX1:(X.drop (64*j)).length=X.length-64*j:=List.length_drop
   have d1:decide (X.length-64*j≤cap∧(0:Int)≤64∧(64:Int)≤(cap:Int)∧(0:Int)≤((0:Nat):Int)∧((0:Nat):Int)≤64)=true:=decide_eq_true ⟨hcap,by omega,by omega,by omega,by omega⟩
   have hb0:Nat.beq (((0:Nat):Int).toNat) cap=false:=by
    cases hh:Nat.beq (((0:Nat):Int).toNat) cap with
    | false=>rfl
    | true=>
     have:0=cap:=nbeq.1 hh
     omega
   have cm:=fun (s':S8) (B:Base) (hB:Base.le A B)=>mixed_hc (A:=B) (s:=s') (P:=(X.drop (64*j)).take 64) (by rw [List.length_take]; omega) (ERead_le hB hTb) ((hs.fst (k:=64) (by omega)).mono hB)
   iterate 6 (refine aops_step fun T S hT hS=>?_; (conv=>whnf); refine hT _ _ ?_)
   refine aops_step fun T S hT hS=>?_
   conv=>whnf
   rw [d1]
   conv=>whnf
   rw [hb0]
   conv=>whnf
   show T (.one (.slice (some (.ext (a.add 0))) 64 cap)) _
   rw [addr_zero hsp]
   refine hT _ _ ?_
   refine aops_step fun T S hT hS=>?_
   conv=>whnf
   refine ⟨fun v _=>v=.agg (runP X s (j+1)).cells,fun c B hB hL=>cm (runP X s j) B (fun r o h=>hB r o (.inl h)),⟨_,B0,rfl,rfl⟩,?_⟩
   rintro v N' _ rfl N1 _
   refine hT _ _ ?_
   iterate 3 (refine aops_step fun T S hT hS=>?_; (conv=>whnf); refine hT _ _ ?_)
   refine aops_end ?_
   refine hK4 _ _ ?_
   clear hK4 hR4
   have hlen:X.length-64*j-64=X.length-64*(j+1):=by omega
   have hdd:(X.drop (64*j)).drop 64=X.drop (64*(j+1)):=by rw [List.drop_drop,Nat.mul_succ]
   have d2:decide (X.length-64*j≤cap∧(0:Int)≤((X.length-64*j:Nat):Int)∧((X.length-64*j:Nat):Int)≤(cap:Int)∧(0:Int)≤64∧(64:Int)≤((X.length-64*j:Nat):Int))=true:=decide_eq_true ⟨hcap,by omega,by omega,by omega,by omega⟩
   refine aops_step fun T S hT hS=>?_
   conv=>whnf
   refine hT _ _ ?_
   refine aops_step fun T S hT hS=>?_
   conv=>whnf
   rw [d2]
   conv=>whnf
   cases h64:Nat.beq (Int.toNat 64) cap with
   | true=>
    have h64:64=cap:=nbeq.1 h64
    conv=>whnf
    show T (.one (.slice (some (.ext a)) (X.length-64*j-64) (cap-64))) _
    have hs':Sl A 1 (.one (.slice (some (.ext a)) (X.length-64*(j+1)) (cap-64))) (ones (u8s (X.drop (64*(j+1))))):=by
     have e:X.length-64*(j+1)=0:=by omega
     rw [e,List.drop_eq_nil_of_le (by omega),← h64]
     exact hs.nil0
    rw [hlen]
    refine hT _ _ ?_
    refine aops_step fun T S hT hS=>?_
    conv=>whnf
    refine hT _ _ ?_
    refine aops_end ?_
    conv=>whnf
    refine ⟨X.length-64*(j+1),F0,by omega,fun c N1 _ _=>⟨_,_,wk_of (by (repeat' apply And.intro)<;>first | trivial | exact ⟨_,rfl,rfl,rfl⟩ | exact ⟨_,rfl,hs'.stable.2.1 _ _,hs'.stable.1 _⟩) (by (repeat' apply And.intro)<;>first | trivial | rfl | exact ⟨_,rfl,rfl,rfl⟩) (by exact Nat.le_of_ble_eq_true rfl) (by exact Nat.le_of_ble_eq_true rfl),⟨j+1,t,cap-64,_,N1,by omega,rfl,hs',rfl,rfl⟩⟩⟩
   | false=>
    have h64:64≠cap:=fun h=>by rw [← h] at h64; cases h64
    conv=>whnf
    show T (.one (.slice (some (.ext (a.add 64))) (X.length-64*j-64) (cap-64))) _
    have hs':Sl A 1 (.one (.slice (some (.ext (a.add 64))) (X.length-64*(j+1)) (cap-64))) (ones (u8s (X.drop (64*(j+1))))):=by
     have:=hs.rest (k:=64) (by omega)
     rw [hX1,hlen,hdd] at this
     exact this
    rw [hlen]
    refine hT _ _ ?_
    refine aops_step fun T S hT hS=>?_
    conv=>whnf
    refine hT _ _ ?_
    refine aops_end ?_
    conv=>whnf
    refine ⟨X.length-64*(j+1),F0,by omega,fun c N1 _ _=>⟨_,_,wk_of (by (repeat' apply And.intro)<;>first | trivial | exact ⟨_,rfl,rfl,rfl⟩ | exact ⟨_,rfl,hs'.stable.2.1 _ _,hs'.stable.1 _⟩) (by (repeat' apply And.intro)<;>first | trivial | rfl | exact ⟨_,rfl,rfl,rfl⟩) (by exact Nat.le_of_ble_eq_true rfl) (by exact Nat.le_of_ble_eq_true rfl),⟨j+1,t,cap-64,_,N1,by omega,rfl,hs',rfl,rfl⟩⟩⟩
  | false=>
   conv=>whnf
   refine hK _ _ ?_
   clear hK hR
   have hlt:X.length-64*j<64:=by have:=of_decide_eq_false hlt; omega
   obtain rfl:j=X.length/64:=by omega
   have hr:X.length-64*(X.length/64)=X.length%64:=by omega
   rw [hr] at hs ⊢
   iterate 6 (refine aops_step fun T S hT hS=>?_; (conv=>whnf); refine hT _ _ ?_)
   refine aops_step fun T S hT hS=>?_
   conv=>whnf
   refine ⟨u8s (X.drop (64*(X.length/64))),hs.has (by rw [List.length_map,List.length_drop,hr]),by rw [List.length_map,List.length_drop,Nat.mul_one,hr],rfl,?_⟩
   conv=>whnf
   cases h0:Nat.beq (X.length%64) 0 with
   | true=>
    have h0:X.length%64=0:=nbeq.1 h0
    refine hT _ _ ?_
    iterate 3 (refine aops_step fun T S hT hS=>?_; (conv=>whnf); refine hT _ _ ?_)
    refine aops_end ?_
    conv=>whnf
    exact ⟨rfl,.inl ⟨h0,t,N,rfl⟩⟩
   | false=>
    have h0:X.length%64≠0:=fun h=>by rw [h] at h0; cases h0
    refine ⟨⟨by omega,by omega⟩,by omega,fun cap' hcap'=>?_⟩
    conv=>whnf
    refine hT _ _ ?_
    iterate 3 (refine aops_step fun T S hT hS=>?_; (conv=>whnf); refine hT _ _ ?_)
    refine aops_end ?_
    conv=>whnf
    exact ⟨rfl,.inr ⟨h0,t,cap',N,hcap',rfl⟩⟩
 ·refine ⟨X.length,F0,fun c N1 _ _=>⟨_,_,wk_of (by (repeat' apply And.intro)<;>first | trivial | exact ⟨_,rfl,rfl,rfl⟩ | exact ⟨_,rfl,hs.stable.2.1 _ _,hs.stable.1 _⟩) (by (repeat' apply And.intro)<;>first | trivial | rfl | exact ⟨_,rfl,rfl,rfl⟩) (by exact Nat.le_of_ble_eq_true rfl) (by exact Nat.le_of_ble_eq_true rfl),⟨0,_,cap,p,N1,by omega,rfl,hs,rfl,rfl⟩⟩⟩

end Go.Hv

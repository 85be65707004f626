import Derived.Test.YthmdbgdagnhheaaGreatDoorHvB
namespace Go.Hv
open Go.Ev

structure Ren where
 to:Nat→Nat
 back:Nat→Nat

structure Ren.Ok (ρ:Ren) (L:Nat):Prop where
 bt:∀ b,ρ.back (ρ.to b)=b
 tb:∀ b,ρ.to (ρ.back b)=b
 fix:∀ b,b<L→ρ.to b=b

theorem Ren.Ok.fixb {ρ:Ren} {L:Nat} (h:ρ.Ok L) {b:Nat} (hb:b<L):ρ.back b=b:=by
 have:=h.bt b
 rwa [h.fix b hb] at this

def trf (f b:Nat):Nat:=
 match Nat.beq b f with
 | true=>f+1
 | false=>match Nat.beq b (f+1) with
  | true=>f
  | false=>b

def tr (f:Nat):Ren:=⟨trf f,trf f⟩
def ren0:Ren:=⟨id,id⟩

def tpf (f g b:Nat):Nat:=
 match Nat.beq b f with
 | true=>g
 | false=>match Nat.beq b g with
  | true=>f
  | false=>b

theorem nbeq {a b:Nat}:Nat.beq a b=true↔a=b:=⟨Nat.eq_of_beq_eq_true,fun h=>by subst h; simp⟩

theorem tpf_tpf (f g b:Nat):tpf f g (tpf f g b)=b:=by
 unfold tpf
 cases h1:Nat.beq b f with
 | true=>
  have:=nbeq.1 h1
  subst this
  cases h2:Nat.beq g b with
  | true=>simp only []; exact nbeq.1 h2
  | false=>simp []
 | false=>
  cases h2:Nat.beq b g with
  | true=>
   have:=nbeq.1 h2
   subst this
   simp
  | false=>simp [h1,h2]

def tp (f g:Nat):Ren:=⟨tpf f g,tpf f g⟩
theorem tp_ok {f g L:Nat} (h:L≤f) (h':L≤g):(tp f g).Ok L:=⟨tpf_tpf f g,tpf_tpf f g,fun b hb=>by
 show tpf f g b=b
 unfold tpf
 have h1:Nat.beq b f=false:=by
  cases hh:Nat.beq b f with
  | false=>rfl
  | true=>have:=nbeq.1 hh; omega
 have h2:Nat.beq b g=false:=by
  cases hh:Nat.beq b g with
  | false=>rfl
  | true=>have:=nbeq.1 hh; omega
 simp [h1,h2]⟩

theorem ren0_ok (L:Nat):ren0.Ok L:=⟨fun _=>rfl,fun _=>rfl,fun _ _=>rfl⟩

def Ren.con (ρ:Ren) (c:Con):Con:=⟨fun b=>c.ι (ρ.back b),fun b=>c.κ (ρ.back b)⟩

def SP.rn (F:Nat→Bool) (c:Con) (ρ:Ren):SP→SP
 | .loc b o=>match F b with
  | true=>.ext ⟨c.ι b,o,none⟩
  | false=>.loc (ρ.to b) o
 | .ext a=>.ext a

def Sc.rn (F:Nat→Bool) (c:Con) (ρ:Ren):Sc→Sc
 | .ptr (some p)=>.ptr (some (SP.rn F c ρ p))
 | .slice (some p) l k=>.slice (some (SP.rn F c ρ p)) l k
 | .buf b l=>match F b with
  | true=>.slice (some (.ext ⟨c.ι b,0,none⟩)) l (c.κ b)
  | false=>.buf (ρ.to b) l
 | s=>s

def rnL (F:Nat→Bool) (c:Con) (ρ:Ren):List Sc→List Sc
 | []=>[]
 | s::l=>Sc.rn F c ρ s::rnL F c ρ l

def TC.rn (F:Nat→Bool) (c:Con) (ρ:Ren):TC→TC
 | .one s=>.one (Sc.rn F c ρ s)
 | .agg l=>.agg (rnL F c ρ l)

def rnT (F:Nat→Bool) (c:Con) (ρ:Ren):List TC→List TC
 | []=>[]
 | s::l=>TC.rn F c ρ s::rnT F c ρ l

def TV.rn (F:Nat→Bool) (c:Con) (ρ:Ren):TV→TV
 | .one s=>.one (Sc.rn F c ρ s)
 | .agg l=>.agg (rnL F c ρ l)
 | .tup l=>.tup (rnT F c ρ l)

section
variable {F:Nat→Bool} {c:Con} {ρ:Ren} {L:Nat}

theorem SP.rn_conc (h:ρ.Ok L) {p:SP}:(SP.rn F c ρ p).conc (ρ.con c)=p.conc c:=by
 cases p with
 | loc b o=>
  simp only [SP.rn]
  split
  ·rfl
  ·simp only [SP.conc,Ren.con,h.bt]
 | ext a=>rfl

theorem Sc.rn_conc (h:ρ.Ok L) {s:Sc}:(Sc.rn F c ρ s).conc (ρ.con c)=s.conc c:=by
 cases s with
 | ptr p=>cases p with
  | none=>rfl
  | some p=>simp [Sc.rn,Sc.conc,SP.rn_conc h]
 | slice p l k=>cases p with
  | none=>rfl
  | some p=>simp [Sc.rn,Sc.conc,SP.rn_conc h]
 | buf b l=>
  simp only [Sc.rn]
  split
  ·rfl
  ·simp only [Sc.conc,Ren.con,h.bt]
 | _=>rfl

theorem rnL_conc (h:ρ.Ok L):∀ {l:List Sc},(rnL F c ρ l).map (Sc.conc (ρ.con c))=l.map (Sc.conc c)
 | []=>rfl
 | s::l=>by simp [rnL,Sc.rn_conc h,rnL_conc h (l:=l)]

theorem rnL_length:∀ {l:List Sc},(rnL F c ρ l).length=l.length
 | []=>rfl
 | s::l=>by simp [rnL,rnL_length (l:=l)]

theorem Sc.rn_id {s:Sc} (h:s.closed 0=true):Sc.rn F c ρ s=s:=by
 cases s with
 | ptr p=>cases p with
  | none=>rfl
  | some p=>cases p with
   | ext a=>rfl
   | loc b o=>simp [Sc.closed,SP.closed] at h
 | slice p n k=>cases p with
  | none=>rfl
  | some p=>cases p with
   | ext a=>rfl
   | loc b o=>simp [Sc.closed,SP.closed] at h
 | buf b l=>simp [Sc.closed] at h
 | _=>rfl

theorem rnL_id:∀ {l:List Sc},closedL 0 l=true→rnL F c ρ l=l
 | [],_=>rfl
 | s::l,h=>by
  have h1:=closedL_iff.1 h s (by simp)
  have h2:closedL 0 l=true:=closedL_iff.2 fun s hs=>closedL_iff.1 h s (by simp [hs])
  simp only [rnL,Sc.rn_id h1,rnL_id h2]

theorem TC.rn_conc (h:ρ.Ok L) {v:TC}:(TC.rn F c ρ v).conc (ρ.con c)=v.conc c:=by
 cases v with
 | one s=>exact Sc.rn_conc h
 | agg l=>simp [TC.rn,TC.conc,rnL_conc h]

theorem rnT_conc (h:ρ.Ok L):∀ {l:List TC},(rnT F c ρ l).map (TC.conc (ρ.con c))=l.map (TC.conc c)
 | []=>rfl
 | s::l=>by simp [rnT,TC.rn_conc h,rnT_conc h (l:=l)]

theorem TV.rn_conc (h:ρ.Ok L) {v:TV}:(TV.rn F c ρ v).conc (ρ.con c)=v.conc c:=by
 cases v with
 | one s=>exact Sc.rn_conc h
 | agg l=>simp [TV.rn,TV.conc,rnL_conc h]
 | tup l=>simp [TV.rn,TV.conc,rnT_conc h]

structure WkR (F:Nat→Bool) (c:Con) (ρ:Ren) (L:Nat) (e:Env) (m:HM) (e':Env) (m':HM):Prop where
 env:∀ t v,Ev.get e' t=some v→∃ u,Ev.get e t=some u∧v=TV.rn F c ρ u∧v.closed m'.bs.length=true
 mem:∀ b x,nth m'.bs b=some x→F (ρ.back b)=false∧∃ y,nth m.bs (ρ.back b)=some y∧x=⟨rnL F c ρ y.cells,y.elem,y.es,y.grows⟩∧closedL m'.bs.length x.cells=true
 le:∀ b,b<m'.bs.length→ρ.back b<m.bs.length
 ge:L≤m'.bs.length

variable {G:Cfg} {N:Nat}

theorem St.wkR {m m':HM} {e e':Env} {a:Act} {w:World} (hρ:ρ.Ok L) (h:St G N c m e a w) (hw:WkR F c ρ L e m e' m') (hN:m'.N=fzN F c m w):St G N (ρ.con c) m' e' a w:=by
 refine ⟨⟨fun b x hx=>?_,fun b x hx=>?_,fun a b x y hx hy he=>?_,fun b hb=>h.rel.lt _ (hw.le b hb),h.rel.baseA,fun r o hr=>?_,fun b x o hx=>?_,fun b x o hx hn=>?_⟩,
  ⟨fun t v hv=>?_,h.fits.defers⟩,h.size⟩
 ·obtain ⟨_,y,hy,rfl,_⟩:=hw.mem b x hx
  obtain ⟨junk,h1,h2,h3⟩:=h.rel.blk _ y hy
  refine ⟨junk,?_,h2,by simpa only [rnL_length] using h3⟩
  simp only [rnL_conc hρ]
  exact h1
 ·obtain ⟨_,y,hy,_,hc⟩:=hw.mem b x hx; exact hc
 ·obtain ⟨_,x',hx',_⟩:=hw.mem a x hx
  obtain ⟨_,y',hy',_⟩:=hw.mem b y hy
  have:=h.rel.inj _ _ x' y' hx' hy' he
  rw [← hρ.tb a,this,hρ.tb]
 ·rw [hN] at hr
  rcases hr with hr | ⟨_,_,_,_,_,hr⟩
  ·exact h.rel.baseN r o hr
  ·exact hr
 ·obtain ⟨_,x',hx',_⟩:=hw.mem b x hx
  exact h.rel.sepA _ x' o hx'
 ·obtain ⟨hF,x',hx',_⟩:=hw.mem b x hx
  rw [hN] at hn
  rcases hn with hn | ⟨d,y,hFd,hy,he,_⟩
  ·exact h.rel.sepN _ x' o hx' hn
  ·have:=h.rel.inj d _ y x' hy hx' he
   subst this; rw [hF] at hFd; cases hFd
 ·obtain ⟨u,hu,rfl,hc⟩:=hw.env t v hv
  exact ⟨by rw [TV.rn_conc hρ]; exact (h.fits.get t u hu).1,hc⟩

theorem Since.wkR {c':Con} {m m1 m2:HM} {e e':Env} {w w':World} (hρ:ρ.Ok m.bs.length) (h:Since c m w c' m1 w') (hw:WkR F c' ρ L e m1 e' m2) (hN:m2.N=fzN F c' m1 w') (hge:m.bs.length≤m2.bs.length):Since c m w (ρ.con c') m2 w':=by
 have hsub:∀ b x,nth m2.bs b=some x→∃ y,nth m1.bs (ρ.back b)=some y:=fun b x hx=>by
  obtain ⟨_,y,hy,_⟩:=hw.mem b x hx; exact ⟨y,hy⟩
 refine ⟨hge,fun b hb=>?_,h.same,h.keep,fun b x hx h1=>?_,fun b x hx hb=>?_,fun r o hn=>?_⟩
 ·have:=h.agree b hb
  simp only [Ren.con,hρ.fixb hb]
  exact this
 ·obtain ⟨y,hy⟩:=hsub b x hx
  refine h.fresh _ y hy ?_
  rcases Nat.lt_or_ge (ρ.back b) m.bs.length with hlt | hlt
  ·have:=hρ.fix _ hlt
   rw [hρ.tb] at this
   omega
  ·exact hlt
 ·obtain ⟨y,hy⟩:=hsub b x hx
  rw [hρ.fixb hb] at hy
  exact h.live b y hy hb
 ·rw [hN] at hn
  rcases hn with hn | ⟨d,y,_,hy,rfl,_⟩
  ·exact h.newN r o hn
  ·by_cases hd:d<m.bs.length
   ·obtain ⟨z,hz⟩:=h.live d y hy hd
    exact .inr (.inr ⟨d,z,hz,(h.agree d hd).1.symm⟩)
   ·rcases h.fresh d y hy (by omega) with h' | ⟨d',z,hz,h'⟩
    ·exact .inr (.inl h')
    ·exact .inr (.inr ⟨d',z,hz,h'.symm⟩)

theorem loop_invR (hG:CfgOk G) {b:Code} {Q:Exit→Env→HM→Prop} (I:Nat→Env→HM→Prop) {e:Env} {m:HM}
  (round:∀ k e' m',I k e' m'→swpC G b (fun x e1 m1=>match x with
   | .normal=>∃ j F ρ,j<k∧Ren.Ok ρ m.bs.length∧∀ c N1,Base.le m1.N N1→Frozen F c N1 m1.bs→∃ e2 bs2,WkR F c ρ m.bs.length e1 m1 e2 ⟨bs2,N1⟩∧I j e2 ⟨bs2,N1⟩
   | x=>Q x e1 m1) e' m')
  (start:∃ k F ρ,Ren.Ok ρ m.bs.length∧∀ c N1,Base.le m.N N1→Frozen F c N1 m.bs→∃ e' bs',WkR F c ρ m.bs.length e m e' ⟨bs',N1⟩∧I k e' ⟨bs',N1⟩):SEM G (.loop b) Q e m:=by
 intro N c a w hk hst
 simp only [okCode] at hk
 obtain ⟨k,F,ρ,hρ,h0⟩:=start
 obtain ⟨e0,bs0,hw0,hI0⟩:=h0 c (fzN F c m w) (fun _ _ h=>.inl h) (frozen_fzN hst.rel)
 refine wp_loop_k (fun k a' w'=>∃ j e' m' c',j<k∧I j e' m'∧m.bs.length≤m'.bs.length∧St G N c' m' e' a' w'∧Since c m w c' m' w') (fun a' w' hh=>?_) (fun k a' w' hh=>?_) (k:=k+1)
  ⟨k,e0,_,ρ.con c,Nat.lt_succ_self k,hI0,hw0.ge,hst.wkR hρ hw0 rfl,(Since.refl c m w).wkR hρ hw0 rfl hw0.ge⟩
 ·obtain ⟨j,e',m',c',hj,_⟩:=hh
  exact absurd hj (Nat.not_lt_zero j)
 ·obtain ⟨j,e',m',c',hj,hI,hge,hst',hs⟩:=hh
  refine wp_mono (swp_sound hG b _ e' m' c' a' w' hk (swpC_imp b (fun _ _ _ h=>h) (round j e' m' hI)) hst') fun ex a2 w2 hp=>?_
  obtain ⟨e2,m2,c2,hq,hst2,hs2⟩:=hp
  cases ex with
  | normal=>
   obtain ⟨j',F',ρ',hj',hρ',hq⟩:=hq
   obtain ⟨e3,bs3,hw,hI'⟩:=hq c2 (fzN F' c2 m2 w2) (fun _ _ h=>.inl h) (frozen_fzN hst2.rel)
   exact ⟨j',e3,_,ρ'.con c2,by omega,hI',hw.ge,hst2.wkR hρ' hw rfl,(hs.trans hs2).wkR hρ' hw rfl hw.ge⟩
  | _=>exact ⟨e2,m2,c2,hq,hst2,hs.trans hs2⟩

def WkRE (F:Nat→Bool) (c:Con) (ρ:Ren) (e:Env) (n:Nat):Env→Prop
 | []=>True
 | (t,v)::r=>(∃ u,Ev.get e t=some u∧v=TV.rn F c ρ u∧v.closed n=true)∧WkRE F c ρ e n r

def WkRM (F:Nat→Bool) (c:Con) (ρ:Ren) (m:Mem) (n:Nat):Nat→Mem→Prop
 | _,[]=>True
 | b,none::r=>Nat.ble (ρ.back b+1) m.length=true∧WkRM F c ρ m n (b+1) r
 | b,some x::r=>(F (ρ.back b)=false∧(∃ y,nth m (ρ.back b)=some y∧x=⟨rnL F c ρ y.cells,y.elem,y.es,y.grows⟩∧closedL n x.cells=true))∧WkRM F c ρ m n (b+1) r

theorem WkRE.get {e:Env} {n:Nat}:∀ {e':Env},WkRE F c ρ e n e'→∀ t v,Ev.get e' t=some v→∃ u,Ev.get e t=some u∧v=TV.rn F c ρ u∧v.closed n=true
 | [],_,t,v,h=>by simp [Ev.get] at h
 | (s,u)::r,hw,t,v,h=>by
  simp only [Ev.get] at h
  split at h
  ·rename_i hb
   have:=Nat.eq_of_beq_eq_true hb
   subst this
   simp only [Option.some.injEq] at h
   subst h; exact hw.1
  ·exact WkRE.get hw.2 t v h

theorem WkRM.nth {m:Mem} {n:Nat}:∀ {m':Mem} {k:Nat},WkRM F c ρ m n k m'→(∀ b x,Ev.nth m' b=some x→F (ρ.back (k+b))=false∧∃ y,Ev.nth m (ρ.back (k+b))=some y∧x=⟨rnL F c ρ y.cells,y.elem,y.es,y.grows⟩∧closedL n x.cells=true) ∧
  ∀ b,b<m'.length→ρ.back (k+b)<m.length
 | [],k,_=>⟨fun b x h=>by simp [Ev.nth] at h,fun b h=>by simp at h⟩
 | none::r,k,hw=>by
  obtain ⟨i1,i2⟩:=WkRM.nth (k:=k+1) hw.2
  have h0:=Nat.le_of_ble_eq_true hw.1
  refine ⟨fun b x h=>?_,fun b h=>?_⟩
  ·cases b with
   | zero=>simp [Ev.nth] at h
   | succ b=>
    have:=i1 b x h
    rwa [show k+1+b=k+(b+1) by omega] at this
  ·cases b with
   | zero=>exact h0
   | succ b=>
    have:=i2 b (by simpa using h)
    rwa [show k+1+b=k+(b+1) by omega] at this
 | some y::r,k,hw=>by
  obtain ⟨i1,i2⟩:=WkRM.nth (k:=k+1) hw.2
  refine ⟨fun b x h=>?_,fun b h=>?_⟩
  ·cases b with
   | zero=>
    simp only [Ev.nth,Option.some.injEq] at h
    subst h; exact hw.1
   | succ b=>
    have:=i1 b x h
    rwa [show k+1+b=k+(b+1) by omega] at this
  ·cases b with
   | zero=>
    obtain ⟨_,z,hz,_⟩:=hw.1
    exact nth_lt hz
   | succ b=>
    have:=i2 b (by simpa using h)
    rwa [show k+1+b=k+(b+1) by omega] at this

theorem wkR_of {e e':Env} {m:HM} {bs':Mem} {N1:Base} (h1:WkRE F c ρ e bs'.length e') (h2:WkRM F c ρ m.bs bs'.length 0 bs') (h4:L≤bs'.length):WkR F c ρ L e m e' ⟨bs',N1⟩:=
 ⟨h1.get,fun b x hx=>by have:=(WkRM.nth h2).1 b x hx; rwa [Nat.zero_add] at this,fun b hb=>by have:=(WkRM.nth h2).2 b hb; rwa [Nat.zero_add] at this,h4⟩

end
end Go.Hv

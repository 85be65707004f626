import Derived.Test.YthmdbgdagnhheaaGreatDoorHvV
namespace Go.Hv
open Go.Ev

section
variable {G:Cfg} {N:Nat}

theorem swp_sound (hG:CfgOk G):∀ (cd:Code) (Q:Exit→Env→HM→Prop) (e:Env) (m:HM) (c:Con) (a:Act) (w:World),okCode G N cd=true→swp G cd Q e m→St G N c m e a w →
  cd.wp G.P (Post G N c m w Q) a w
 | .skip,Q,e,m,c,a,w,_,h,hst=>wp_skip ⟨e,m,c,h,hst,Since.refl c m w⟩
 | .label l,Q,e,m,c,a,w,_,h,hst=>wp_label ⟨e,m,c,h,hst,Since.refl c m w⟩
 | .exit id,Q,e,m,c,a,w,_,h,hst=>wp_exit ⟨e,m,c,h,hst,Since.refl c m w⟩
 | .ret,Q,e,m,c,a,w,_,h,hst=>wp_ret ⟨e,m,c,h,hst,Since.refl c m w⟩
 | .region id ops draw,Q,e,m,c,a,w,hk,h,hst=>by
  simp only [okCode] at hk
  simp only [swp] at h
  split at hk
  ·rename_i hd
   have hops:∀ (i:Nat) (o:Oper),ops[i]?=some o→dstOk N o=true:=fun i o ho=>List.all_eq_true.1 hd o (by simpa using Array.mem_of_getElem? ho)
   cases draw with
   | false=>
    have hm:markOf G id false=none:=rfl
    simp only [hm] at h
    exact wp_region_list (aops_sound hG ops.toList e m c a w hd h hst fun e' m' c' a' w' hK hst' hs=>⟨e',m',c',hK,hst',hs⟩)
   | true=>
    simp only at hk
    have hst':St G N c m e a { w with drawn:=w.drawn+1 }:=⟨hst.rel.drew,hst.fits,hst.size⟩
    cases hm:markOf G id true with
    | some l=>
     simp only [hm,Bool.and_eq_true] at hk h
     obtain ⟨hlen,hk⟩:=hk
     have hlen:=Nat.eq_of_beq_eq_true hlen
     refine wp_region_any hG.mixed ?_
     have hlex:=aAny_lexS (G:=G) (ops:=ops) hG (K:=fun e' m'=>∃ e'',EnvEq e' e''∧Q .normal e'' m') (fun e1 e2 m' he hh=>by
      obtain ⟨e'',h1,h2⟩:=hh; exact ⟨e'',fun t=>(he t).symm.trans (h1 t),h2⟩) l (Array.replicate ops.size false) e m hk (aopsS_mono (fun e' m' hh=>⟨e',fun _=>rfl,hh⟩) h)
     rw [hlen] at hlex
     have:=aAny_sound hG (N:=N) hops _ _ _ _ c a _ hlex hst' (Q:=Post G N c m w Q) (fun e' m' c' a' w' hK hst'' hs=>by
      obtain ⟨e'',h1,h2⟩:=hK
      exact ⟨e'',m',c',h2,hst''.less (fun t v hv=>by rw [h1 t]; exact hv),(Since.drew c m w).trans hs⟩)
     simpa using this
    | none=>
    simp only [hm,Bool.and_eq_true] at hk h
    obtain ⟨hlen,hk⟩:=hk
    have hlen:=Nat.eq_of_beq_eq_true hlen
    refine wp_region_any hG.mixed ?_
    have hseq:seqOf G id true ops.toList=pickL ops.toList (ordOf G id ops.size):=by
     unfold seqOf ordOf
     simp only
     split
     ·rw [List.range_eq_range',pickL_range _ _ _ (by simp)]; rfl
     ·rfl
    rw [hseq] at h
    rw [Bool.or_eq_true] at hk
    rcases hk with hk | hk
    case inr=>
     have:=vars_sound (N:=N) (Q:=Post G N c m w Q) hG hk hlen hops (KQ:=fun e' m'=>∃ e'',EnvEq e' e''∧Q .normal e'' m') (aopsL_mono' (fun e' m' hh=>⟨e',fun _=>rfl,hh⟩) h) hst'
      (fun e1 e2 m' he hh=>by obtain ⟨e'',h1,h2⟩:=hh; exact ⟨e'',fun t=>(he t).symm.trans (h1 t),h2⟩) (fun e' m' c' a' w' hK hst'' hs=>by
       obtain ⟨e'',h1,h2⟩:=hK
       exact ⟨e'',m',c',h2,hst''.less (fun t v hv=>by rw [h1 t]; exact hv),(Since.drew c m w).trans hs⟩)
     exact this
    have hlex:=aAny_lex (G:=G) (ops:=ops) hG (K:=fun e' m'=>∃ e'',EnvEq e' e''∧Q .normal e'' m') (fun e1 e2 m' he hh=>by
     obtain ⟨e'',h1,h2⟩:=hh; exact ⟨e'',fun t=>(he t).symm.trans (h1 t),h2⟩) (ordOf G id ops.size) (Array.replicate ops.size false) e m (by simpa using hk) (by
      have mono:∀ (l:List Oper) (e:Env) (m:HM),aopsL G ops.toList l e m (Q .normal)→aopsL G ops.toList l e m (fun e' m'=>∃ e'',EnvEq e' e''∧Q .normal e'' m'):=by
       intro l
       induction l with
       | nil=>intro e m hh; exact ⟨e,fun _=>rfl,hh⟩
       | cons o l ih=>
        intro e m hh
        simp only [aopsL] at hh ⊢
        split at hh
        ·exact aop_mono (fun v m' hx=>ih _ _ hx) hh
        ·exact ih _ _ hh
        ·exact hh
      exact mono _ e m h)
    rw [hlen] at hlex
    have:=aAny_sound hG (N:=N) hops _ _ _ _ c a _ hlex hst' (Q:=Post G N c m w Q) (fun e' m' c' a' w' hK hst'' hs=>by
     obtain ⟨e'',h1,h2⟩:=hK
     exact ⟨e'',m',c',h2,hst''.less (fun t v hv=>by rw [h1 t]; exact hv),(Since.drew c m w).trans hs⟩)
    simpa using this
  ·cases hk
 | .seq x y,Q,e,m,c,a,w,hk,h,hst=>by
  simp only [okCode] at hk
  split at hk
  ·rename_i hx
   refine wp_seq (wp_mono (swp_sound hG x _ e m c a w hx h hst) fun ex a' w' hp=>?_)
   obtain ⟨e',m',c',hq,hst',hs⟩:=hp
   cases ex with
   | normal=>
    refine wp_mono (swp_sound hG y _ e' m' c' a' w' hk hq hst') fun ex2 a2 w2 hp2=>?_
    obtain ⟨e2,m2,c2,hq2,hst2,hs2⟩:=hp2
    exact ⟨e2,m2,c2,hq2,hst2,hs.trans hs2⟩
   | _=>exact ⟨e',m',c',hq,hst',hs⟩
  ·cases hk
 | .cond cc x y,Q,e,m,c,a,w,hk,h,hst=>by
  simp only [okCode] at hk
  split at hk
  ·rename_i hx
   simp only [swp] at h
   split at h
   ·rename_i t ht
    have he:=(opv_sound hst.fits ht).1
    simp only [TV.conc,Sc.conc] at he
    split at h
    ·exact wp_cond_true he (swp_sound hG x Q e m c a w hx h hst)
    ·exact wp_cond_false he (swp_sound hG y Q e m c a w hk h hst)
   ·exact h.elim
  ·cases hk
 | .block id b,Q,e,m,c,a,w,hk,h,hst=>by
  simp only [okCode] at hk
  refine wp_block (wp_mono (swp_sound hG b _ e m c a w hk h hst) fun ex a' w' hp=>?_)
  obtain ⟨e',m',c',hq,hst',hs⟩:=hp
  cases ex with
  | exit i=>
   simp only [Exit.inBlock]
   by_cases hid:i=id
   ·subst hid
    simp only [if_true]
    have hb:Nat.beq i i=true:=by simp
    simp only [hb] at hq
    exact ⟨e',m',c',hq,hst',hs⟩
   ·have hb:Nat.beq i id=false:=by
     cases hb:Nat.beq i id with
     | false=>rfl
     | true=>exact absurd (Nat.eq_of_beq_eq_true hb) hid
    simp only [if_neg hid]
    simp only [hb] at hq
    exact ⟨e',m',c',hq,hst',hs⟩
  | _=>exact ⟨e',m',c',hq,hst',hs⟩
 | .loop b,Q,e,m,c,a,w,hk,h,hst=>by
  simp only [okCode] at hk
  simp only [swp] at h
  rcases h with ⟨k,h⟩ | h
  case inr=>exact h N c a w (by simpa only [okCode] using hk) hst
  refine wp_loop_k (fun k a' w'=>∃ e' m' c',loopN (swp G b) (dom e []) Q k e' m'∧St G N c' m' e' a' w'∧Since c m w c' m' w') (fun a' w' hh=>?_) (fun k a' w' hh=>?_) (k:=k) ⟨e,m,c,h,hst,Since.refl c m w⟩
  ·obtain ⟨e',m',c',hl,_⟩:=hh
   exact hl
  ·obtain ⟨e',m',c',hl,hst',hs⟩:=hh
   simp only [loopN] at hl
   refine wp_mono (swp_sound hG b _ e' m' c' a' w' hk hl hst') fun ex a2 w2 hp=>?_
   obtain ⟨e2,m2,c2,hq,hst2,hs2⟩:=hp
   cases ex with
   | normal=>
    obtain ⟨e3,h3,hle⟩:=restr_sound (dom e []) [] (fun t v hv=>by simp [Ev.get] at hv) hq
    exact ⟨e3,m2,c2,h3,hst2.less hle,hs.trans hs2⟩
   | _=>exact ⟨e2,m2,c2,hq,hst2,hs.trans hs2⟩
 | .rangeFunc ..,Q,e,m,c,a,w,_,h,hst=>h.elim
 | .scope ..,Q,e,m,c,a,w,_,h,hst=>h.elim
 | .goto ..,Q,e,m,c,a,w,_,h,hst=>h.elim
 | .refuse ..,Q,e,m,c,a,w,_,h,hst=>h.elim

def SP.fz (F:Nat→Bool) (c:Con):SP→SP
 | .loc b o=>match F b with
  | true=>.ext ⟨c.ι b,o,none⟩
  | false=>.loc b o
 | .ext a=>.ext a

def Sc.fz (F:Nat→Bool) (c:Con):Sc→Sc
 | .ptr (some p)=>.ptr (some (SP.fz F c p))
 | .slice (some p) l k=>.slice (some (SP.fz F c p)) l k
 | .buf b l=>match F b with
  | true=>.slice (some (.ext ⟨c.ι b,0,none⟩)) l (c.κ b)
  | false=>.buf b l
 | s=>s

def fzL (F:Nat→Bool) (c:Con):List Sc→List Sc
 | []=>[]
 | s::l=>Sc.fz F c s::fzL F c l

def TC.fz (F:Nat→Bool) (c:Con):TC→TC
 | .one s=>.one (Sc.fz F c s)
 | .agg l=>.agg (fzL F c l)

def fzT (F:Nat→Bool) (c:Con):List TC→List TC
 | []=>[]
 | s::l=>TC.fz F c s::fzT F c l

def TV.fz (F:Nat→Bool) (c:Con):TV→TV
 | .one s=>.one (Sc.fz F c s)
 | .agg l=>.agg (fzL F c l)
 | .tup l=>.tup (fzT F c l)

theorem SP.fz_conc {F:Nat→Bool} {c:Con} {p:SP}:(SP.fz F c p).conc c=p.conc c:=by
 cases p with
 | loc b o=>simp only [SP.fz]; split<;>rfl
 | ext a=>rfl

theorem Sc.fz_conc {F:Nat→Bool} {c:Con} {s:Sc}:(Sc.fz F c s).conc c=s.conc c:=by
 cases s with
 | ptr p=>cases p with
  | none=>rfl
  | some p=>simp [Sc.fz,Sc.conc,SP.fz_conc]
 | slice p l k=>cases p with
  | none=>rfl
  | some p=>simp [Sc.fz,Sc.conc,SP.fz_conc]
 | buf b l=>simp only [Sc.fz]; split<;>rfl
 | _=>rfl

theorem fzL_conc {F:Nat→Bool} {c:Con}:∀ {l:List Sc},(fzL F c l).map (Sc.conc c)=l.map (Sc.conc c)
 | []=>rfl
 | s::l=>by simp [fzL,Sc.fz_conc,fzL_conc (l:=l)]

theorem fzL_length {F:Nat→Bool} {c:Con}:∀ {l:List Sc},(fzL F c l).length=l.length
 | []=>rfl
 | s::l=>by simp [fzL,fzL_length (l:=l)]

theorem TC.fz_conc {F:Nat→Bool} {c:Con} {v:TC}:(TC.fz F c v).conc c=v.conc c:=by
 cases v with
 | one s=>exact Sc.fz_conc
 | agg l=>simp [TC.fz,TC.conc,fzL_conc]

theorem fzT_conc {F:Nat→Bool} {c:Con}:∀ {l:List TC},(fzT F c l).map (TC.conc c)=l.map (TC.conc c)
 | []=>rfl
 | s::l=>by simp [fzT,TC.fz_conc,fzT_conc (l:=l)]

theorem TV.fz_conc {F:Nat→Bool} {c:Con} {v:TV}:(TV.fz F c v).conc c=v.conc c:=by
 cases v with
 | one s=>exact Sc.fz_conc
 | agg l=>simp [TV.fz,TV.conc,fzL_conc]
 | tup l=>simp [TV.fz,TV.conc,fzT_conc]

def Frozen (F:Nat→Bool) (c:Con) (B:Base) (bs:Mem):Prop:=
 ∀ b x,F b=true→nth bs b=some x→∃ junk:List Value,B (c.ι b) (.cells ((extL c x.cells).map (Sc.conc Con0)++junk).toArray x.elem (0,0))

structure Wk (F:Nat→Bool) (c:Con) (L:Nat) (e:Env) (m:HM) (e':Env) (m':HM):Prop where
 env:∀ t v,Ev.get e' t=some v→∃ u,Ev.get e t=some u∧v=TV.fz F c u∧v.closed m'.bs.length=true
 mem:∀ b x,nth m'.bs b=some x→F b=false∧∃ y,nth m.bs b=some y∧x=⟨fzL F c y.cells,y.elem,y.es,y.grows⟩∧closedL m'.bs.length x.cells=true
 le:m'.bs.length≤m.bs.length
 ge:L≤m'.bs.length

def fzN (F:Nat→Bool) (c:Con) (m:HM) (w:World):Base:=fun r o=>m.N r o∨∃ b x,F b=true∧nth m.bs b=some x∧c.ι b=r∧w.heap[r]?=some o

theorem frozen_fzN {F:Nat→Bool} {A:Base} {c:Con} {m:HM} {w:World} (h:Rel A c m w):Frozen F c (fzN F c m w) m.bs:=fun b x hF hx=>by
 obtain ⟨junk,h1,_⟩:=h.blk b x hx
 exact ⟨junk,.inr ⟨b,x,hF,hx,rfl,by rw [(extL_conc (h.cl b x hx)).1]; exact h1⟩⟩

theorem St.wk {F:Nat→Bool} {L:Nat} {c:Con} {m m':HM} {e e':Env} {a:Act} {w:World} (h:St G N c m e a w) (hw:Wk F c L e m e' m') (hN:m'.N=fzN F c m w):St G N c m' e' a w:=by
 refine ⟨⟨fun b x hx=>?_,fun b x hx=>?_,fun a b x y hx hy he=>?_,fun b hb=>h.rel.lt b (Nat.lt_of_lt_of_le hb hw.le),h.rel.baseA,fun r o hr=>?_,fun b x o hx=>?_,fun b x o hx hn=>?_⟩,
  ⟨fun t v hv=>?_,h.fits.defers⟩,h.size⟩
 ·obtain ⟨_,y,hy,rfl,_⟩:=hw.mem b x hx
  obtain ⟨junk,h1,h2,h3⟩:=h.rel.blk b y hy
  exact ⟨junk,by simpa only [fzL_conc] using h1,h2,by simpa only [fzL_length] using h3⟩
 ·obtain ⟨_,y,hy,_,hc⟩:=hw.mem b x hx; exact hc
 ·obtain ⟨_,x',hx',_⟩:=hw.mem a x hx
  obtain ⟨_,y',hy',_⟩:=hw.mem b y hy
  exact h.rel.inj a b x' y' hx' hy' he
 ·rw [hN] at hr
  rcases hr with hr | ⟨_,_,_,_,_,hr⟩
  ·exact h.rel.baseN r o hr
  ·exact hr
 ·obtain ⟨_,x',hx',_⟩:=hw.mem b x hx
  exact h.rel.sepA b x' o hx'
 ·obtain ⟨hF,x',hx',_⟩:=hw.mem b x hx
  rw [hN] at hn
  rcases hn with hn | ⟨d,y,hFd,hy,he,_⟩
  ·exact h.rel.sepN b x' o hx' hn
  ·have:=h.rel.inj d b y x' hy hx' he
   subst this; rw [hF] at hFd; cases hFd
 ·obtain ⟨u,hu,rfl,hc⟩:=hw.env t v hv
  exact ⟨by rw [TV.fz_conc]; exact (h.fits.get t u hu).1,hc⟩

theorem Since.wk {F:Nat→Bool} {L:Nat} {c c':Con} {m m1 m2:HM} {e e':Env} {w w':World} (h:Since c m w c' m1 w') (hw:Wk F c' L e m1 e' m2) (hN:m2.N=fzN F c' m1 w') (hge:m.bs.length≤m2.bs.length):Since c m w c' m2 w':=by
 have hsub:∀ b x,nth m2.bs b=some x→∃ y,nth m1.bs b=some y:=fun b x hx=>by
  obtain ⟨_,y,hy,_⟩:=hw.mem b x hx; exact ⟨y,hy⟩
 refine ⟨hge,h.agree,h.same,h.keep,fun b x hx h1=>by obtain ⟨y,hy⟩:=hsub b x hx; exact h.fresh b y hy h1,fun b x hx hb=>by obtain ⟨y,hy⟩:=hsub b x hx; exact h.live b y hy hb,fun r o hn=>?_⟩
 rw [hN] at hn
 rcases hn with hn | ⟨d,y,_,hy,rfl,_⟩
 ·exact h.newN r o hn
 ·by_cases hd:d<m.bs.length
  ·obtain ⟨z,hz⟩:=h.live d y hy hd
   exact .inr (.inr ⟨d,z,hz,(h.agree d hd).1.symm⟩)
  ·rcases h.fresh d y hy (by omega) with h' | ⟨d',z,hz,h'⟩
   ·exact .inr (.inl h')
   ·exact .inr (.inr ⟨d',z,hz,h'.symm⟩)

theorem loop_inv (hG:CfgOk G) {b:Code} {Q:Exit→Env→HM→Prop} (I:Nat→Env→HM→Prop) {e:Env} {m:HM}
  (round:∀ k e' m',I k e' m'→swp G b (fun x e1 m1=>match x with
   | .normal=>∃ j F,j<k∧∀ c N1,Base.le m1.N N1→Frozen F c N1 m1.bs→∃ e2 bs2,Wk F c m.bs.length e1 m1 e2 ⟨bs2,N1⟩∧I j e2 ⟨bs2,N1⟩
   | x=>Q x e1 m1) e' m')
  (start:∃ k F,∀ c N1,Base.le m.N N1→Frozen F c N1 m.bs→∃ e' bs',Wk F c m.bs.length e m e' ⟨bs',N1⟩∧I k e' ⟨bs',N1⟩):SEM G (.loop b) Q e m:=by
 intro N c a w hk hst
 simp only [okCode] at hk
 obtain ⟨k,F,h0⟩:=start
 obtain ⟨e0,bs0,hw0,hI0⟩:=h0 c (fzN F c m w) (fun _ _ h=>.inl h) (frozen_fzN hst.rel)
 refine wp_loop_k (fun k a' w'=>∃ j e' m' c',j<k∧I j e' m'∧m.bs.length≤m'.bs.length∧St G N c' m' e' a' w'∧Since c m w c' m' w') (fun a' w' hh=>?_) (fun k a' w' hh=>?_) (k:=k+1)
  ⟨k,e0,_,c,Nat.lt_succ_self k,hI0,hw0.ge,hst.wk hw0 rfl,(Since.refl c m w).wk hw0 rfl hw0.ge⟩
 ·obtain ⟨j,e',m',c',hj,_⟩:=hh
  exact absurd hj (Nat.not_lt_zero j)
 ·obtain ⟨j,e',m',c',hj,hI,hge,hst',hs⟩:=hh
  refine wp_mono (swp_sound hG b _ e' m' c' a' w' hk (round j e' m' hI) hst') fun ex a2 w2 hp=>?_
  obtain ⟨e2,m2,c2,hq,hst2,hs2⟩:=hp
  cases ex with
  | normal=>
   obtain ⟨j',F',hj',hq⟩:=hq
   obtain ⟨e3,bs3,hw,hI'⟩:=hq c2 (fzN F' c2 m2 w2) (fun _ _ h=>.inl h) (frozen_fzN hst2.rel)
   exact ⟨j',e3,_,c2,by omega,hI',hw.ge,hst2.wk hw rfl,(hs.trans hs2).wk hw rfl hw.ge⟩
  | _=>exact ⟨e2,m2,c2,hq,hst2,hs.trans hs2⟩

end
end Go.Hv

namespace Go.Hv
open Go.Ev
section
variable {G:Cfg}

theorem ares_sound (hG:CfgOk G) {N:Nat} {c:Con} {m:HM} {e:Env} {a:Act} {w:World} (hst:St G N c m e a w):∀ (rs:List ResultVar) (K:List TC→Prop),ares G rs e m K →
  ∃ l,K l∧(rs.mapM (resV a.tmps)).run G.P w=.ok (l.map (TC.conc c)) w∧∀ u∈l,u.closed m.bs.length=true
 | [],K,h=>⟨[],h,by simp,by simp⟩
 | .tmp t::rs,K,h=>by
  simp only [ares] at h
  split at h
  ·rename_i v hv
   split at h
   ·rename_i u hu
    obtain ⟨h1,h2⟩:=hst.fits.get t v hv
    obtain ⟨l,hl,hrun,hcl⟩:=ares_sound hG hst rs _ h
    refine ⟨u::l,hl,?_,?_⟩
    ·rw [List.mapM_cons]
     simp only [Sem.run_bind,resV,Sem.run_pure,Result.andThen_ok,hrun,h1,List.map_cons,TV.tc_conc hu]
    ·simp only [List.mem_cons,forall_eq_or_imp]
     exact ⟨by rw [TV.tc_closed hu]; exact h2,hcl⟩
   ·exact h.elim
  ·exact h.elim
 | .cell t ty::rs,K,h=>by
  simp only [ares] at h
  split at h
  ·rename_i v hv
   obtain ⟨h1,h2⟩:=hst.fits.get t v hv
   obtain ⟨p,u,hp,hrun,hu,hK⟩:=aload_run hG hst.rel h2 h
   split at hK
   ·rename_i uc huc
    obtain ⟨l,hl,hrun',hcl⟩:=ares_sound hG hst rs _ hK
    refine ⟨uc::l,hl,?_,?_⟩
    ·rw [List.mapM_cons]
     simp only [Sem.run_bind,resV,h1,hp,asAddr,Sem.run_pure,Result.andThen_ok,hrun,hrun',List.map_cons,TV.tc_conc huc]
    ·simp only [List.mem_cons,forall_eq_or_imp]
     exact ⟨by rw [TV.tc_closed huc]; exact hu,hcl⟩
   ·exact hK.elim
  ·exact h.elim

theorem call_of_swp (hG:CfgOk G) {f:FuncId} {fn:Func} {cd:Code} {args:List TV} {m:HM} {K:TV→HM→Prop} (hf:G.P.funcs[f]?=some fn) (hb:fn.body=some cd)
  (hn : (fn.name == "runtime.NumGoroutine") = false) (hk : okCode G fn.ntmps cd = true) (h : swp G cd (post G fn.results K) (ienv 0 args) m) : CALL G.P G.A f args m K := by
 refine ⟨enters_of hf hb hn,fun c w hr hcl=>?_⟩
 refine calls_of_wp hf hb ?_
 have hst:St G fn.ntmps c m (ienv 0 args) { tmps:=(args.map (TV.conc c)).toArray++Array.replicate (fn.ntmps-(args.map (TV.conc c)).toArray.size) undef,defers:=[] } w:=by
  refine ⟨hr,⟨fun t v hv=>?_,rfl⟩,by simp; omega⟩
  obtain ⟨j,rfl,hj⟩:=ienv_get args 0 t v hv
  simp only [Nat.zero_add]
  have hlt:j<args.length:=(List.getElem?_eq_some_iff.1 hj).1
  have hv':args[j]=v:=(List.getElem?_eq_some_iff.1 hj).2
  refine ⟨?_,hcl v (List.mem_of_getElem? hj)⟩
  simp [Array.getElem?_append,hlt,hv']
 refine wp_mono (swp_sound hG cd _ _ m c _ w hk h hst) fun x a' w' hp=>?_
 obtain ⟨e',m',c',hq,hst',hs⟩:=hp
 have fin:ares G fn.results.toList e' m' (fun l=>K (outV l) m')→a'.defers=[]∧∃ v,(results fn a'.tmps).run G.P w'=.ok v w' ∧
   (∃ v_1 m' c',Ending.returned v=Ending.returned (TV.conc c' v_1)∧Rel G.A c' m' w'∧Since c m w c' m' w'∧TV.closed m'.bs.length v_1=true∧K v_1 m'):=fun hh=>by
  obtain ⟨l,hl,hrun,hcl'⟩:=ares_sound hG hst' _ _ hh
  exact ⟨hst'.fits.defers,_,results_run (G:=(⟨G.P,default,[],fun _=>none,fun _=>true⟩:Ev.Cfg)) hrun,outV l,m',c',rfl,hst'.rel,hs,outV_closed hcl',hl⟩
 cases x with
 | normal=>exact fin hq
 | ret=>exact fin hq
 | _=>exact hq.elim

theorem CALL.mono {P:Program} {A:Base} {f:FuncId} {args:List TV} {m:HM} {K K':TV→HM→Prop} (h:CALL P A f args m K) (hk:∀ v m',K v m'→K' v m'):CALL P A f args m K':=
 ⟨h.1,fun c w hr hcl=>(h.2 c w hr hcl).mono fun _ _ ⟨v,m',c',h1,h2,h3,h4,h5⟩=>⟨v,m',c',h1,h2,h3,h4,hk v m' h5⟩⟩

def M0:HM:=⟨[],B0⟩

theorem rel0 {A:Base} {c:Con} {w:World} (h:BaseIn A w):Rel A c M0 w:=
 ⟨fun b x hx=>by simp [M0,nth] at hx,fun b x hx=>by simp [M0,nth] at hx,fun b d x y hx=>by simp [M0,nth] at hx,fun b hb=>by simp [M0] at hb,h,fun r o hr=>hr.elim,
  fun b x o hx=>by simp [M0,nth] at hx,fun b x o hx=>by simp [M0,nth] at hx⟩

theorem hc_of_call {P:Program} {A:Base} {f:FuncId} {args:List TV} {K0:TV→Base→Prop} (ha:closedTs 0 args=true)
  (h:CALL P A f args M0 fun v m=>∀ c N1,Base.le m.N N1→Lent c N1 m.bs→K0 (TV.ext c v) N1):HC P A f args K0:=by
 refine ⟨h.1,fun w hw=>?_⟩
 refine (h.2 Con0 w (rel0 hw) (closedTs_iff.1 ha)).mono fun e w' hh=>?_
 obtain ⟨v,m',c',h1,hr,hs,hcl,hK⟩:=hh
 have nomem:∀ (b:Nat) (x:Blk),¬ nth M0.bs b=some x:=fun b x hx=>by simp [M0,nth] at hx
 have hfr:∀ b x,nth m'.bs b=some x→w.heap.size≤c'.ι b:=fun b x hx=>by
  rcases hs.fresh b x hx (Nat.zero_le _) with h' | ⟨d,y,hy,_⟩
  ·exact h'
  ·exact absurd hy (nomem d y)
 let N1:Base:=fun r o=>m'.N r o∨∃ b x,nth m'.bs b=some x∧c'.ι b=r∧w'.heap[r]?=some o
 obtain ⟨e1,e2⟩:=TV.conc_ext (c:=c') hcl
 refine ⟨TV.ext c' v,N1,by rw [h1,e1],e2,fun r o hr'=>?_,fun r o hr'=>?_,hs.same,fun r hr'=>hs.keep r hr' (fun b x hx=>absurd hx (nomem b x)),hK c' N1 (fun _ _ h=>.inl h) (fun b x hx=>?_)⟩
 ·rcases hr' with hr' | ⟨_,_,_,_,hr'⟩
  ·exact hr.baseN r o hr'
  ·exact hr'
 ·rcases hr' with hr' | ⟨b,x,hx,rfl,_⟩
  ·rcases hs.newN r o hr' with h' | h' | ⟨d,y,hy,_⟩
   ·exact h'.elim
   ·exact h'
   ·exact absurd hy (nomem d y)
  ·exact hfr b x hx
 ·obtain ⟨junk,h1,_⟩:=hr.blk b x hx
  exact ⟨junk,.inr ⟨b,x,hx,rfl,by rw [(extL_conc (hr.cl b x hx)).1]; exact h1⟩⟩

theorem hco_of_call {P:Program} {A:Base} {f:FuncId} {args:List TV} {K0:Nat→Nat→Blk→Base→Prop} (ha:closedTs 0 args=true)
  (h:CALL P A f args M0 fun v m=>∃ b n cap k,v=.one (.slice (some (.loc b 0)) n cap)∧nth m.bs b=some k∧closedL 0 k.cells=true∧K0 n cap k m.N):HCO P A f args K0:=by
 refine ⟨h.1,fun w hw=>?_⟩
 refine (h.2 Con0 w (rel0 hw) (closedTs_iff.1 ha)).mono fun e w' hh=>?_
 obtain ⟨v,m',c',h1,hr,hs,hcl,b,n,cap,k,rfl,hk,hkc,hK⟩:=hh
 have nomem:∀ (b:Nat) (x:Blk),¬ nth M0.bs b=some x:=fun b x hx=>by simp [M0,nth] at hx
 obtain ⟨junk,g1,g2,g3⟩:=hr.blk b k hk
 have ag0:Agree 0 Con0 c':=fun b hb=>absurd hb (Nat.not_lt_zero b)
 refine ⟨c'.ι b,n,cap,k,m'.N,junk,by rw [h1]; rfl,by rw [← concL_agree ag0 hkc]; exact g1,g2,g3,hkc,?_,fun o=>hr.sepN b k o hk,hr.baseN,fun r o hr'=>?_,hs.same,
  fun r hr'=>hs.keep r hr' (fun b x hx=>absurd hx (nomem b x)),hK⟩
 ·rcases hs.fresh b k hk (Nat.zero_le _) with h' | ⟨d,y,hy,_⟩
  ·exact h'
  ·exact absurd hy (nomem d y)
 ·rcases hs.newN r o hr' with h' | h' | ⟨d,y,hy,_⟩
  ·exact h'.elim
  ·exact h'
  ·exact absurd hy (nomem d y)

theorem fn_of_hc {P:Program} {f:FuncId} {args:List TV} {v:TV} (hv:v.closed 0=true) (ha:closedTs 0 args=true) (h:∀ A,HC P A f args fun v' _=>v'=v):Ev.Fn P f args v:=by
 refine ⟨hv,fun W0 m=>⟨(h B0).1,fun c w hr hcl=>?_⟩⟩
 have hc:=(h fun r o=>w.heap[r]?=some o).2 w (fun _ _ h=>h)
 have ag:Agree 0 Con0 c:=fun b hb=>absurd hb (Nat.not_lt_zero b)
 have hargs:args.map (TV.conc Con0)=args.map (TV.conc c):=List.map_congr_left fun u hu=>(TV.conc_agree ag (closedTs_iff.1 ha u hu)).symm
 rw [hargs] at hc
 refine hc.mono fun e w' hh=>?_
 obtain ⟨v',N,h1,h2,_,_,h5,h6,rfl⟩:=hh
 refine ⟨v',m,c,by rw [h1,TV.conc_agree ag hv],?_,⟨Nat.le_refl _,fun _ _=>⟨rfl,rfl⟩,h5.size,fun r hr' _=>h6 r hr',fun b x g6 g7=>absurd (nth_lt g6) (by omega),fun b x g6 _=>⟨x,g6⟩⟩,TV.closed_mono (Nat.zero_le _) hv,rfl,rfl⟩
 refine ⟨fun b x hx=>?_,hr.cl,hr.inj,hr.ge,fun b hb=>?_,fun r hr'=>?_,Nat.le_trans hr.size h5.size,h5.os.trans hr.os,h5.tape.trans hr.tape,h5.output.trans hr.output⟩
 ·obtain ⟨junk,k1,k2⟩:=hr.blk b x hx
  exact ⟨junk,by rw [h6 _ (hr.lt b (nth_lt hx))]; exact k1,k2⟩
 ·exact Nat.lt_of_lt_of_le (hr.lt b hb) h5.size
 ·rw [h6 r (Nat.lt_of_lt_of_le hr' hr.size)]; exact hr.ext r hr'

def WkE (F:Nat→Bool) (c:Con) (e:Env) (n:Nat):Env→Prop
 | []=>True
 | (t,v)::r=>(∃ u,Ev.get e t=some u∧v=TV.fz F c u∧v.closed n=true)∧WkE F c e n r

def WkM (F:Nat→Bool) (c:Con) (m:Mem) (n:Nat):Nat→Mem→Prop
 | _,[]=>True
 | b,none::r=>WkM F c m n (b+1) r
 | b,some x::r=>(F b=false∧(∃ y,nth m b=some y∧x=⟨fzL F c y.cells,y.elem,y.es,y.grows⟩∧closedL n x.cells=true))∧WkM F c m n (b+1) r

theorem WkE.get {F:Nat→Bool} {c:Con} {e:Env} {n:Nat}:∀ {e':Env},WkE F c e n e'→∀ t v,Ev.get e' t=some v→∃ u,Ev.get e t=some u∧v=TV.fz F c u∧v.closed n=true
 | [],_,t,v,h=>by simp [Ev.get] at h
 | (s,u)::r,hw,t,v,h=>by
  simp only [Ev.get] at h
  split at h
  ·rename_i hb
   have:=Nat.eq_of_beq_eq_true hb
   subst this
   simp only [Option.some.injEq] at h
   subst h; exact hw.1
  ·exact WkE.get hw.2 t v h

theorem WkM.nth {F:Nat→Bool} {c:Con} {m:Mem} {n:Nat}:∀ {m':Mem} {k:Nat},WkM F c m n k m'→∀ b x,Ev.nth m' b=some x→F (k+b)=false∧∃ y,Ev.nth m (k+b)=some y∧x=⟨fzL F c y.cells,y.elem,y.es,y.grows⟩∧closedL n x.cells=true
 | [],k,_,b,x,h=>by simp [Ev.nth] at h
 | none::r,k,hw,b,x,h=>by
  cases b with
  | zero=>simp [Ev.nth] at h
  | succ b=>
   have:=WkM.nth (k:=k+1) hw b x h
   rwa [show k+1+b=k+(b+1) by omega] at this
 | some y::r,k,hw,b,x,h=>by
  cases b with
  | zero=>
   simp only [Ev.nth,Option.some.injEq] at h
   subst h; exact hw.1
  | succ b=>
   have:=WkM.nth (k:=k+1) hw.2 b x h
   rwa [show k+1+b=k+(b+1) by omega] at this

theorem wk_of {F:Nat→Bool} {c:Con} {L:Nat} {e e':Env} {m:HM} {bs':Mem} {N1:Base} (h1:WkE F c e bs'.length e') (h2:WkM F c m.bs bs'.length 0 bs') (h3:bs'.length≤m.bs.length) (h4:L≤bs'.length):Wk F c L e m e' ⟨bs',N1⟩:=
 ⟨h1.get,fun b x hx=>by have:=h2.nth b x hx; rwa [Nat.zero_add] at this,h3,h4⟩

def F0:Nat→Bool:=fun _=>false

end
end Go.Hv

namespace Go.Hv
open Go.Ev

def wantC (ops:List Oper) (g:Option (Nat×Bool)) (e:Env) (Kt Kf:Prop):Prop:=
 match g with
 | none=>Kt
 | some (j,want)=>match ops[j]? with
  | some o=>match o.dst with
   | some t=>match get e t with
    | some (.one (.bool b))=>match want with
     | true=>match b with
      | true=>Kt
      | false=>Kf
     | false=>match b with
      | true=>Kf
      | false=>Kt
    | some (.tup [])=>Kf
    | _=>False
   | none=>False
  | none=>False

theorem wantC_imp {ops:List Oper} {g:Option (Nat×Bool)} {e:Env} {Kt Kf:Prop} (h:wantC ops g e Kt Kf):(wantedA ops g e=some true∧Kt)∨(wantedA ops g e=some false∧Kf):=by
 unfold wantC at h
 unfold wantedA
 cases g with
 | none=>exact .inl ⟨rfl,h⟩
 | some gw=>
  obtain ⟨j,want⟩:=gw
  simp only at h ⊢
  cases ho:ops[j]? with
  | none=>simp only [ho] at h
  | some o=>
   simp only [ho] at h ⊢
   cases ht:o.dst with
   | none=>simp only [ht] at h
   | some t=>
    simp only [ht] at h ⊢
    split at h
    ·rename_i b hb
     simp only [hb]
     cases want<;>cases b<;>simp_all
    ·rename_i hb
     simp only [hb]
     exact .inr ⟨trivial,h⟩
    ·exact False.elim h

def shiftC (op:BinOp) (k:IntKind) (a b:Int) (K:TV→Prop):Prop:=
 match decide (b<0) with
 | true=>False
 | false=>match op with
  | .shl=>K (.one (wr k (a*2^(min b.toNat k.bits))))
  | _=>K (.one (.int k (a.fdiv (2^(min b.toNat k.bits)))))

def divC (op:BinOp) (k:IntKind) (a b:Int) (K:TV→Prop):Prop:=
 match decide (b=0) with
 | true=>False
 | false=>match op with
  | .quo=>K (.one (.int k (k.wrap (a.tdiv b))))
  | _=>K (.one (.int k (a.tmod b)))

def partC (agg:Bool) (size:Nat) (l:List Sc) (o:Nat) (K:TV→Prop):Prop:=
 match agg with
 | true=>match takeAt l o size with
  | some r=>K (.agg r)
  | none=>False
 | false=>match takeAt l o 1 with
  | some [c]=>K (.one c)
  | _=>False

theorem partC_imp {agg:Bool} {size:Nat} {l:List Sc} {o:Nat} {K:TV→Prop} (h:partC agg size l o K):∃ v,partV agg size l o=some v∧K v:=by
 unfold partC at h
 unfold partV
 split at h
 ·split at h
  ·rename_i r hr; exact ⟨_,by simp only [hr],h⟩
  ·exact h.elim
 ·split at h
  ·rename_i r hr; exact ⟨_,by simp only [hr],h⟩
  ·exact h.elim

def pvalC (T:Tys) (op:Op) (e:Env) (K:TV→Prop):Prop:=
 match op with
 | .pick c a b=>match opv e c with
  | some (.one (.bool t))=>match t with
   | true=>match opv e a with
    | some v=>K v
    | none=>False
   | false=>match opv e b with
    | some v=>K v
    | none=>False
  | _=>False
 | .binOp .shl _ x y _=>match opv e x,opv e y with
  | some (.one (.int k a)),some (.one (.int _ b))=>shiftC .shl k a b K
  | _,_=>False
 | .binOp .shr _ x y _=>match opv e x,opv e y with
  | some (.one (.int k a)),some (.one (.int _ b))=>shiftC .shr k a b K
  | _,_=>False
 | .binOp .quo _ x y _=>match opv e x,opv e y with
  | some (.one (.int k a)),some (.one (.int k' b))=>match kEq k k' with
   | true=>divC .quo k a b K
   | false=>False
  | _,_=>False
 | .binOp .rem _ x y _=>match opv e x,opv e y with
  | some (.one (.int k a)),some (.one (.int k' b))=>match kEq k k' with
   | true=>divC .rem k a b K
   | false=>False
  | _,_=>False
 | .indexAddr t x i=>match lk T t,opv e x,opv e i with
  | some { k:=.array n es _,.. },some (.one (.ptr (some p))),some (.one (.int _ j))=>
   match decide (0≤j∧j<(n:Int)) with
   | true=>K (.one (.ptr (some (p.add (j.toNat*es)))))
   | false=>False
  | some { k:=.slice _ es _ _,.. },some (.one (.slice (some p) len _)),some (.one (.int _ j))=>
   match decide (0≤j∧j<(len:Int)) with
   | true=>K (.one (.ptr (some (p.add (j.toNat*es)))))
   | false=>False
  | _,_,_=>False
 | .index t x i=>match lk T t,opv e x,opv e i with
  | some { k:=.array n es ag,.. },some (.agg l),some (.one (.int _ j))=>
   match decide (0≤j∧j<(n:Int)) with
   | true=>partC ag es l (j.toNat*es) K
   | false=>False
  | _,_,_=>False
 | .slice t x lo hi none=>match lk T t,opv e x with
  | some { k:=.array n es _,.. },some (.one (.ptr (some p)))=>match bound e lo 0,bound e hi n with
   | some l,some h=>match decide (0≤h∧h≤(n:Int)∧0≤l∧l≤h) with
    | true=>match Nat.beq l.toNat n with
     | true=>K (.one (.slice (some p) (h.toNat-l.toNat) (n-l.toNat)))
     | false=>K (.one (.slice (some (p.add (l.toNat*es))) (h.toNat-l.toNat) (n-l.toNat)))
    | false=>False
   | _,_=>False
  | some { k:=.slice _ es _ _,.. },some (.one (.slice (some p) len cap))=>match bound e lo 0,bound e hi len with
   | some l,some h=>match decide (len≤cap∧0≤h∧h≤(cap:Int)∧0≤l∧l≤h) with
    | true=>match Nat.beq l.toNat cap with
     | true=>K (.one (.slice (some p) (h.toNat-l.toNat) (cap-l.toNat)))
     | false=>K (.one (.slice (some (p.add (l.toNat*es))) (h.toNat-l.toNat) (cap-l.toNat)))
    | false=>False
   | _,_=>False
  | some { k:=.slice _ _ _ _,.. },some (.one (.slice none 0 0))=>match bound e lo 0,bound e hi 0 with
   | some l,some h=>match decide (l=0∧h=0) with
    | true=>K (.one (.slice none 0 0))
    | false=>False
   | _,_=>False
  | _,_=>False
 | .sliceToArrayPointer t x=>match lk T t,opv e x with
  | some { k:=.array n _ _,.. },some (.one (.slice p len _))=>match Nat.ble n len with
   | true=>K (.one (.ptr p))
   | false=>False
  | _,_=>False
 | op=>match pvalH T op e with
  | some v=>K v
  | none=>False

theorem pvalC_imp {T:Tys} {op:Op} {e:Env} {K:TV→Prop} (h:pvalC T op e K):∃ v,pvalH T op e=some v∧K v:=by
 have ofp:∀ {v:TV},pval T op e=some v→pvalH T op e=some v:=fun hv=>by unfold pvalH; rw [hv]
 unfold pvalC at h
 split at h
 ·split at h
  ·rename_i c a b t hc
   split at h
   ·split at h
    ·rename_i v hv; exact ⟨v,ofp (by simp only [pval,hc,hv]),h⟩
    ·exact h.elim
   ·split at h
    ·rename_i v hv; exact ⟨v,ofp (by simp only [pval,hc,hv]),h⟩
    ·exact h.elim
  ·exact h.elim
 ·split at h
  ·rename_i k a k' b hx hy
   unfold shiftC at h
   split at h
   ·exact h.elim
   ·rename_i hb
    exact ⟨_,ofp (by simp only [pval,hx,hy,bop,bopI,hb]),h⟩
  ·exact h.elim
 ·split at h
  ·rename_i k a k' b hx hy
   unfold shiftC at h
   split at h
   ·exact h.elim
   ·rename_i hb
    exact ⟨_,ofp (by simp only [pval,hx,hy,bop,bopI,hb]),h⟩
  ·exact h.elim
 ·split at h
  ·rename_i k a k' b hx hy
   split at h
   ·rename_i hk
    unfold divC at h
    split at h
    ·exact h.elim
    ·rename_i hb
     exact ⟨_,ofp (by simp only [pval,hx,hy,bop,bopI,hk,hb]),h⟩
   ·exact h.elim
  ·exact h.elim
 ·split at h
  ·rename_i k a k' b hx hy
   split at h
   ·rename_i hk
    unfold divC at h
    split at h
    ·exact h.elim
    ·rename_i hb
     exact ⟨_,ofp (by simp only [pval,hx,hy,bop,bopI,hk,hb]),h⟩
   ·exact h.elim
  ·exact h.elim
 ·split at h
  ·rename_i ht hx hi
   split at h
   ·rename_i hb; exact ⟨_,ofp (by simp only [pval,ht,hx,hi,hb]),h⟩
   ·exact h.elim
  ·rename_i ht hx hi
   split at h
   ·rename_i hb; exact ⟨_,ofp (by simp only [pval,ht,hx,hi,hb]),h⟩
   ·exact h.elim
  ·exact h.elim
 ·split at h
  ·rename_i ht hx hi
   split at h
   ·rename_i hb
    obtain ⟨v,hv,hK⟩:=partC_imp h
    exact ⟨v,ofp (by simp only [pval,ht,hx,hi,hb,hv]),hK⟩
   ·exact h.elim
  ·exact h.elim
 ·split at h
  ·rename_i ht hx
   split at h
   ·rename_i hl hh
    split at h
    ·rename_i hb
     split at h
     ·rename_i hq; exact ⟨_,ofp (by simp only [pval,ht,hx,hl,hh,hb,hq]),h⟩
     ·rename_i hq; exact ⟨_,ofp (by simp only [pval,ht,hx,hl,hh,hb,hq]),h⟩
    ·exact h.elim
   ·exact h.elim
  ·rename_i ht hx
   split at h
   ·rename_i hl hh
    split at h
    ·rename_i hb
     split at h
     ·rename_i hq; exact ⟨_,ofp (by simp only [pval,ht,hx,hl,hh,hb,hq]),h⟩
     ·rename_i hq; exact ⟨_,ofp (by simp only [pval,ht,hx,hl,hh,hb,hq]),h⟩
    ·exact h.elim
   ·exact h.elim
  ·rename_i ht hx
   split at h
   ·rename_i hl hh
    split at h
    ·rename_i hb
     exact ⟨_,by simp only [pvalH,pval,pval2,ht,hx,hl,hh,hb],h⟩
    ·exact h.elim
   ·exact h.elim
  ·exact h.elim
 ·split at h
  ·rename_i ht hx
   split at h
   ·rename_i hb; exact ⟨_,ofp (by simp only [pval,ht,hx,hb]),h⟩
   ·exact h.elim
  ·exact h.elim
 ·split at h
  ·rename_i v hv; exact ⟨v,hv,h⟩
  ·exact h.elim

def aloadC (G:Cfg) (t:TypeId) (x:TV) (m:HM) (K:TV→HM→Prop):Prop:=
 match lk G.T t,x with
 | some i,.one (.ptr (some (.loc b o)))=>match nth m.bs b with
  | some k=>partC i.agg i.size k.cells o fun v=>K v m
  | none=>False
 | some i,.one (.ptr (some (.ext a)))=>∃ v,ERead (G.A.or m.N) i.agg i.size a v∧K v m
 | _,_=>False

theorem aloadC_imp {G:Cfg} {t:TypeId} {x:TV} {m:HM} {K:TV→HM→Prop} (h:aloadC G t x m K):aload G t x m K:=by
 unfold aloadC at h
 unfold aload
 split at h
 ·rename_i ht
  split at h
  ·rename_i hn
   obtain ⟨v,hv,hK⟩:=partC_imp h
   simp only [ht,hn,hv]; exact hK
  ·exact h.elim
 ·rename_i ht
  (try simp only [ht]); exact h
 ·exact h.elim

def astoreC (G:Cfg) (t:TypeId) (x v:TV) (m:HM) (K:TV→HM→Prop):Prop:=
 match lk G.T t,x,v.cells with
 | some i,.one (.ptr (some (.loc b o))),some vs=>match nth m.bs b with
  | some ⟨l,el,es,gr⟩=>match Nat.beq i.size vs.length with
   | true=>match putAt l o vs with
    | some cs=>K (.tup []) ⟨setB m.bs b (some ⟨cs,el,es,gr⟩),m.N⟩
    | none=>False
   | false=>False
  | none=>False
 | _,_,_=>False

theorem astoreC_imp {G:Cfg} {t:TypeId} {x v:TV} {m:HM} {K:TV→HM→Prop} (h:astoreC G t x v m K):∃ m',astore G t x v m=some m'∧K (.tup []) m':=by
 unfold astoreC at h
 unfold astore
 split at h
 ·rename_i ht hv
  split at h
  ·rename_i hn
   split at h
   ·rename_i hb
    split at h
    ·rename_i hp
     exact ⟨_,by simp only [ht,hv,hn,hb,hp],h⟩
    ·exact h.elim
   ·exact h.elim
  ·exact h.elim
 ·exact h.elim

def aopC (G:Cfg) (o:Oper) (e:Env) (m:HM) (K:TV→HM→Prop):Prop:=
 match o.op with
 | .alloc t=>match lk G.T t with
  | some i=>match snoc m.bs (some ⟨i.zero,t,0,false⟩) with
   | (b,m')=>K (.one (.ptr (some (.loc b 0)))) ⟨m',m.N⟩
  | none=>False
 | .box t x=>match opv e x with
  | some v=>match v.cells with
   | some cs=>match snoc m.bs (some ⟨cs,t,0,false⟩) with
    | (b,m')=>K (.one (.ptr (some (.loc b 0)))) ⟨m',m.N⟩
   | none=>False
  | none=>False
 | .load t x=>match opv e x with
  | some v=>aloadC G t v m K
  | none=>False
 | .store t x y=>match opv e x,opv e y with
  | some v,some u=>astoreC G t v u m K
  | _,_=>False
 | .call { callee:=.value (.func f),args:=xs,argTypes:=_ }=>match getOps e xs.toList with
  | some vs=>acall G f vs m K
  | none=>False
 | .call { callee:=.builtin .copy,args:=xs,argTypes:=ts }=>match getOps e xs.toList with
  | some vs=>acopy G ts.toList vs m K
  | none=>False
 | .call { callee:=.builtin .append,args:=xs,argTypes:=ts }=>match getOps e xs.toList with
  | some vs=>aappend G ts.toList vs m K
  | none=>False
 | .makeSlice t x y=>match opv e x,opv e y with
  | some u,some v=>amake G t u v m K
  | _,_=>False
 | .convert s d x=>match lk G.T d with
  | some { k:=.int _,.. }=>match pval G.T (.convert s d x) e with
   | some v=>K v m
   | none=>False
  | some _=>match opv e x with
   | some v=>aconv G s d v m K
   | none=>False
  | none=>False
 | op=>match newOp op with
  | some (t,n,ps)=>match opvP e ps with
   | some vs=>optM (abuild G t n vs m) K
   | none=>False
  | none=>pvalC G.T op e fun v=>K v m

theorem aopC_imp {G:Cfg} {o:Oper} {e:Env} {m:HM} {K:TV→HM→Prop} (h:aopC G o e m K):aop G o e m K:=by
 unfold aopC at h
 unfold aop
 split at h
 ·rename_i ho; simp only [ho]; exact h
 ·rename_i ho; simp only [ho]; exact h
 ·rename_i t x ho
  simp only [ho]
  split at h
  ·rename_i hv; (try simp only [hv]); exact aloadC_imp h
  ·exact h.elim
 ·rename_i t x y ho
  simp only [ho]
  split at h
  ·rename_i v u hv hu
   (try simp only [hv,hu])
   obtain ⟨m',h1,h2⟩:=astoreC_imp h
   simp only [h1]; exact h2
  ·exact h.elim
 ·rename_i ho; simp only [ho]; exact h
 ·rename_i ho; simp only [ho]; exact h
 ·rename_i ho; simp only [ho]; exact h
 ·rename_i ho; simp only [ho]; exact h
 ·rename_i s d x ho
  simp only [ho,newOp]
  split at h
  ·split at h
   ·rename_i v hv
    simp only [pvalH,hv]; exact h
   ·exact h.elim
  ·rename_i i hno hi
   split at h
   ·rename_i v hv
    have hn:pvalH G.T (.convert s d x) e=none:=conv_pvalH fun j hj k hk=>by
     rw [hi] at hj
     simp only [Option.some.injEq] at hj
     subst hj
     obtain ⟨_,_,_,_,kk⟩:=i
     simp only at hk
     subst hk
     exact hno _ _ _ _ _ rfl
    simp only [hn,hv]; exact h
   ·exact h.elim
  ·exact h.elim
 ·rename_i h1 h2 h3 h4 h5 h6 h7 h8 h9
  split
  ·rename_i ho; exact absurd ho (h1 _)
  ·rename_i ho; exact absurd ho (h2 _ _)
  ·rename_i ho; exact absurd ho (h3 _ _)
  ·rename_i ho; exact absurd ho (h4 _ _ _)
  ·rename_i ho; exact absurd ho (h5 _ _ _)
  ·rename_i ho; exact absurd ho (h6 _ _)
  ·rename_i ho; exact absurd ho (h7 _ _)
  ·rename_i ho; exact absurd ho (h8 _ _ _)
  ·split at h
   ·rename_i hn; (try simp only [hn]); exact h
   ·rename_i hn
    obtain ⟨v,hv,hK⟩:=pvalC_imp h
    simp only [hn,hv]; exact hK

def aopsC (G:Cfg) (all:List Oper):List Oper→Env→HM→(Env→HM→Prop)→Prop
 | [],e,m,K=>K e m
 | o::r,e,m,K=>wantC all o.guard e (aopC G o e m fun v m'=>aopsC G all r (putE o.dst v e) m' K) (aopsC G all r (putE o.dst (.tup []) e) m K)

theorem aopsC_imp {G:Cfg} {all:List Oper} {K:Env→HM→Prop}:∀ {l:List Oper} {e:Env} {m:HM},aopsC G all l e m K→aopsL G all l e m K
 | [],_,_,h=>h
 | o::l,e,m,h=>by
  simp only [aopsC] at h
  simp only [aopsL]
  rcases wantC_imp h with ⟨hw,h⟩ | ⟨hw,h⟩
  ·simp only [hw]
   exact aop_mono (fun v m' hh=>aopsC_imp hh) (aopC_imp h)
  ·simp only [hw]
   exact aopsC_imp h

def aopsSC (G:Cfg) (ops:Array Oper):List Nat→Env→HM→(Env→HM→Prop)→Prop
 | [],e,m,K=>K e m
 | i::l,e,m,K=>match ops[i]? with
  | none=>False
  | some o=>wantC ops.toList o.guard e (match lateChk ops i o l e with
    | true=>aopC G o e m fun v m'=>aopsSC G ops l (putE o.dst v e) m' K
    | false=>False)
   (aopsSC G ops l (putE o.dst (.tup []) e) m K)

theorem aopsSC_imp {G:Cfg} {ops:Array Oper} {K:Env→HM→Prop}:∀ {l:List Nat} {e:Env} {m:HM},aopsSC G ops l e m K→aopsS G ops l e m K
 | [],_,_,h=>h
 | i::l,e,m,h=>by
  simp only [aopsSC] at h
  simp only [aopsS]
  cases ho:ops[i]? with
  | none=>simp only [ho] at h
  | some o=>
   simp only [ho] at h ⊢
   rcases wantC_imp h with ⟨hw,h⟩ | ⟨hw,h⟩
   ·simp only [hw]
    cases hl:lateChk ops i o l e with
    | true=>simp only [hl] at h ⊢; exact aop_mono (fun v m' hh=>aopsSC_imp hh) (aopC_imp h)
    | false=>simp only [hl] at h
   ·simp only [hw]
    exact aopsSC_imp h

def loopNC (body:(Exit→Env→HM→Prop)→Env→HM→Prop) (d:List Nat) (Q:Exit→Env→HM→Prop):Nat→Env→HM→Prop
 | 0,_,_=>False
 | k+1,e,m=>body (fun x e' m'=>match x with
  | .normal=>restr (fun e''=>loopNC body d Q k e'' m') e' d []
  | x=>Q x e' m') e m

def swpC (G:Cfg):Code→(Exit→Env→HM→Prop)→Env→HM→Prop
 | .skip,Q,e,m=>Q .normal e m
 | .region id ops draw,Q,e,m=>match markOf G id draw with
  | some l=>aopsSC G ops l e m (Q .normal)
  | none=>aopsC G ops.toList (seqOf G id draw ops.toList) e m (Q .normal)
 | .seq a b,Q,e,m=>swpC G a (fun x e' m'=>match x with
  | .normal=>swpC G b Q e' m'
  | x=>Q x e' m') e m
 | .cond c a b,Q,e,m=>match opv e c with
  | some (.one (.bool t))=>match t with
   | true=>swpC G a Q e m
   | false=>swpC G b Q e m
  | _=>False
 | .block id b,Q,e,m=>swpC G b (fun x e' m'=>match x with
  | .exit i=>match Nat.beq i id with
   | true=>Q .normal e' m'
   | false=>Q (.exit i) e' m'
  | x=>Q x e' m') e m
 | .loop b,Q,e,m=>(∃ k,loopNC (swpC G b) (dom e []) Q k e m)∨SEM G (.loop b) Q e m
 | .exit id,Q,e,m=>Q (.exit id) e m
 | .ret,Q,e,m=>Q .ret e m
 | .label _,Q,e,m=>Q .normal e m
 | _,_,_,_=>False

theorem aopsL_mono {G:Cfg} {all:List Oper} {K K':Env→HM→Prop} (hk:∀ e m,K e m→K' e m):∀ {l:List Oper} {e:Env} {m:HM},aopsL G all l e m K→aopsL G all l e m K'
 | [],_,_,h=>hk _ _ h
 | o::l,e,m,h=>by
  simp only [aopsL] at h ⊢
  split at h
  ·exact aop_mono (fun v m' hh=>aopsL_mono hk hh) h
  ·exact aopsL_mono hk h
  ·exact h

theorem restr_mono {K K':Env→Prop} {e:Env} (hk:∀ e,K e→K' e):∀ {l:List Nat} {acc:Env},restr K e l acc→restr K' e l acc
 | [],_,h=>hk _ h
 | t::l,acc,h=>by
  simp only [restr] at h ⊢
  split at h
  ·exact restr_mono hk h
  ·exact restr_mono hk h

theorem SEM.mono {G:Cfg} {cd:Code} {Q Q':Exit→Env→HM→Prop} (hq:∀ x e m,Q x e m→Q' x e m) {e:Env} {m:HM} (h:SEM G cd Q e m):SEM G cd Q' e m:=fun N c a w hk hst=>
 wp_mono (h N c a w hk hst) fun _x _a' _w' ⟨e',m',c',h1,h2⟩=>⟨e',m',c',hq _ _ _ h1,h2⟩

theorem loopN_mono {body body':(Exit→Env→HM→Prop)→Env→HM→Prop} {d:List Nat} {Q Q':Exit→Env→HM→Prop} (hq:∀ x e m,Q x e m→Q' x e m)
  (hb:∀ R R':Exit→Env→HM→Prop,(∀ x e m,R x e m→R' x e m)→∀ e m,body R e m→body' R' e m):∀ (k:Nat) {e:Env} {m:HM},loopNC body d Q k e m→loopN body' d Q' k e m
 | 0,_,_,h=>h
 | k+1,e,m,h=>by
  simp only [loopNC] at h
  simp only [loopN]
  refine hb _ _ (fun x e m hh=>?_) _ _ h
  cases x with
  | normal=>exact restr_mono (fun _ hh=>loopN_mono hq hb k hh) hh
  | _=>exact hq _ _ _ hh

theorem swpC_imp {G:Cfg}:∀ (cd:Code) {Q Q':Exit→Env→HM→Prop} (_:∀ x e m,Q x e m→Q' x e m) {e:Env} {m:HM},swpC G cd Q e m→swp G cd Q' e m
 | .skip,_,_,hq,_,_,h=>hq _ _ _ h
 | .region id ops draw,_,_,hq,_,_,h=>by
  simp only [swpC] at h
  simp only [swp]
  cases hm:markOf G id draw with
  | some l=>simp only [hm] at h ⊢; exact aopsS_mono (fun _ _ hh=>hq _ _ _ hh) (aopsSC_imp h)
  | none=>simp only [hm] at h ⊢; exact aopsL_mono (fun _ _ hh=>hq _ _ _ hh) (aopsC_imp h)
 | .seq a b,_,_,hq,_,_,h=>swpC_imp a (fun x e m hh=>by
   cases x with
   | normal=>exact swpC_imp b hq hh
   | _=>exact hq _ _ _ hh) h
 | .cond c a b,_,_,hq,_,_,h=>by
  simp only [swpC] at h
  simp only [swp]
  split at h
  ·rename_i hc
   split at h
   ·(try simp only [hc]); exact swpC_imp a hq h
   ·(try simp only [hc]); exact swpC_imp b hq h
  ·exact h.elim
 | .block id b,_,_,hq,_,_,h=>swpC_imp b (fun x e m hh=>by
   cases x with
   | exit i=>
    simp only at hh ⊢
    cases hb:Nat.beq i id with
    | true=>simp only [hb] at hh ⊢; exact hq _ _ _ hh
    | false=>simp only [hb] at hh ⊢; exact hq _ _ _ hh
   | _=>exact hq _ _ _ hh) h
 | .loop b,_,_,hq,_,_,h=>by
  simp only [swpC] at h
  simp only [swp]
  rcases h with ⟨k,h⟩ | h
  ·exact .inl ⟨k,loopN_mono (body':=swp G b) hq (fun R R' hr e m hh=>swpC_imp b hr hh) k h⟩
  ·exact .inr (h.mono hq)
 | .exit _,_,_,hq,_,_,h=>hq _ _ _ h
 | .ret,_,_,hq,_,_,h=>hq _ _ _ h
 | .label _,_,_,hq,_,_,h=>hq _ _ _ h
 | .rangeFunc ..,_,_,_,_,_,h=>h.elim
 | .scope ..,_,_,_,_,_,h=>h.elim
 | .goto ..,_,_,_,_,_,h=>h.elim
 | .refuse ..,_,_,_,_,_,h=>h.elim

theorem swp_cut {G:Cfg} {a b:Code} {Q:Exit→Env→HM→Prop} {e:Env} {m:HM}
  (h:∀ K:Exit→Env→HM→Prop,(∀ e' m',swpC G b Q e' m'→K .normal e' m')→(∀ e' m',Q .ret e' m'→K .ret e' m')→(∀ i e' m',Q (.exit i) e' m'→K (.exit i) e' m')→swpC G a K e m):swpC G (.seq a b) Q e m:=
 h _ (fun _ _ h=>h) (fun _ _ h=>h) (fun _ _ _ h=>h)

theorem loop_invC {G:Cfg} (hG:CfgOk G) {b:Code} {Q:Exit→Env→HM→Prop} (I:Nat→Env→HM→Prop) {e:Env} {m:HM}
  (round:∀ k e' m',I k e' m'→swpC G b (fun x e1 m1=>match x with
   | .normal=>∃ j F,j<k∧∀ c N1,Base.le m1.N N1→Frozen F c N1 m1.bs→∃ e2 bs2,Wk F c m.bs.length e1 m1 e2 ⟨bs2,N1⟩∧I j e2 ⟨bs2,N1⟩
   | x=>Q x e1 m1) e' m')
  (start:∃ k F,∀ c N1,Base.le m.N N1→Frozen F c N1 m.bs→∃ e' bs',Wk F c m.bs.length e m e' ⟨bs',N1⟩∧I k e' ⟨bs',N1⟩):SEM G (.loop b) Q e m:=
 loop_inv hG I (fun k e' m' hI=>swpC_imp b (fun _ _ _ h=>h) (round k e' m' hI)) start

end Go.Hv

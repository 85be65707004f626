import Derived.Test.YthmdbgdagnhheaaGreatDoorHvA
namespace Go.Hv
open Go.Ev

section
variable {G:Cfg} {ops:Array Oper}

structure SpecV (G:Cfg) (ops:Array Oper):Prop where
 a1:∀ (i:Nat) (o:Oper),ops[i]?=some o→clsV o=1→∃ (t:TypeId) (d:Tmp),o.op=.alloc t∧o.dst=some d∧(∃ inf,lk G.T t=some inf)∧(∀ (k:Nat) (ok:Oper),ops[k]?=some ok→k≠i→ok.dst≠some d) ∧
  (∀ (k:Nat) (ok:Oper),ops[k]?=some ok→clsV ok=0→d ∉ ok.looksAt ops)∧(∀ (k:Nat) (ok:Oper) (t':TypeId) (d':Tmp) (y:Operand),ops[k]?=some ok→stD ok=some (t',d',y)→y≠.tmp d)
 s2:∀ (i:Nat) (o:Oper),ops[i]?=some o→clsV o=2→o.dst=none∧∃ (t:TypeId) (d:Tmp) (y:Operand) (a:Nat) (oa:Oper),stD o=some (t,d,y)∧ops[a]?=some oa∧clsV oa=1∧mkD oa=some (t,d)∧edgeV o a=true ∧
  (∀ (k:Nat) (ok:Oper) (ty:Tmp),ops[k]?=some ok→y=.tmp ty→ok.dst=some ty→edgeV o k=true)∧(∀ (k:Nat) (ok:Oper) (t':TypeId) (d':Tmp) (y':Operand),ops[k]?=some ok→stD ok=some (t',d',y')→d'=d→k=i)

theorem clsV_guard {o:Oper} (h:clsV o≠0):o.guard=none:=by
 unfold clsV at h
 split at h
 ·exact absurd rfl h
 ·assumption

theorem clsV_cases (o:Oper):clsV o=0∨clsV o=1∨clsV o=2:=by
 unfold clsV
 split
 ·exact .inl rfl
 ·split
  ·exact .inr (.inl rfl)
  ·exact .inr (.inr rfl)
  ·exact .inl rfl

theorem okV_spec (h:okV G ops=true):SpecV G ops:=by
 refine ⟨fun i o hi hc=>?_,fun i o hi hc=>?_⟩
 ·have:=allV_spec h hi
  simp only [hc] at this
  cases hm:mkD o with
  | none=>simp only [hm] at this; cases this
  | some td=>
   obtain ⟨t,d⟩:=td
   simp only [hm,Bool.and_eq_true] at this
   obtain ⟨hlk,this⟩:=this
   obtain ⟨h1,h2⟩:=mkD_some hm
   refine ⟨t,d,h1,h2,Option.isSome_iff_exists.1 hlk,fun k ok hk hne hd=>?_,fun k ok hk h0 hin=>?_,fun k ok t' d' y hk hs he=>?_⟩
   ·have:=allV_spec this hk
    have hkb:Nat.beq k i=false:=by
     cases hb:Nat.beq k i with
     | false=>rfl
     | true=>exact absurd (Nat.eq_of_beq_eq_true hb) hne
    simp [hkb,hd] at this
   ·have:=allV_spec this hk
    have:(ok.looksAt ops).contains d=true:=by simpa using hin
    simp_all
   ·have:=allV_spec this hk
    subst he
    simp [hs,opTmp] at this
 ·have:=allV_spec h hi
  simp only [hc] at this
  simp only [Bool.and_eq_true] at this
  obtain ⟨hd,this⟩:=this
  have hd:o.dst=none:=by simpa using hd
  refine ⟨hd,?_⟩
  cases hm:stD o with
  | none=>simp only [hm] at this; cases this
  | some tdy=>
   obtain ⟨t,d,y⟩:=tdy
   simp only [hm,Bool.and_eq_true,List.any_eq_true,List.mem_range] at this
   obtain ⟨h1,a,ha,he,h2⟩:=this
   cases hoa:ops[a]? with
   | none=>simp only [hoa] at h2; cases h2
   | some oa=>
    simp only [hoa,Bool.and_eq_true] at h2
    obtain ⟨hca,h2⟩:=h2
    cases hma:mkD oa with
    | none=>simp only [hma] at h2; cases h2
    | some td=>
     obtain ⟨t',d'⟩:=td
     simp only [hma,Bool.and_eq_true] at h2
     have e1:t'=t:=Nat.eq_of_beq_eq_true h2.1
     have e2:d'=d:=Nat.eq_of_beq_eq_true h2.2
     subst e1 e2
     refine ⟨t',d',y,a,oa,rfl,hoa,Nat.eq_of_beq_eq_true hca,hma,he,fun k ok ty hk hy hdk=>?_,fun k ok t'' d'' y' hk hs hdd=>?_⟩
     ·have:=allV_spec h1 hk
      subst hy
      simp only [opTmp,hdk,Bool.and_eq_true] at this
      simpa using this.1
     ·have:=allV_spec h1 hk
      subst hdd
      simp only [hs,Bool.and_eq_true] at this
      have h3:=this.2
      have:Nat.beq d'' d''=true:=by simp
      rw [this] at h3
      simp only [Bool.not_true,Bool.or_false] at h3
      exact Nat.eq_of_beq_eq_true h3

def okS (G:Cfg) (o:Oper) (e:Env):Prop:=
 ∃ t d y inf v vs cs,stD o=some (t,d,y)∧lk G.T t=some inf∧opv e y=some v∧v.cells=some vs∧Nat.beq inf.size vs.length=true∧putAt inf.zero 0 vs=some cs

def aAtV (G:Cfg) (ops:Array Oper) (i:Nat) (K:Env→HM→Prop) (e:Env) (m:HM):Prop:=
 match ops[i]? with
 | none=>K e m
 | some o=>match clsV o with
  | 0=>aSt G ops o e m fun v m'=>K (putE o.dst v e) m'
  | 1=>K e m
  | _=>okS G o e∧K e m

def aAnyV (G:Cfg) (ops:Array Oper) (K:Env→HM→Prop):Nat→Array Bool→Env→HM→Prop
 | 0,listed,e,m=>Region.ready .any ops listed=[]∧K e m
 | f+1,listed,e,m=>(Region.ready .any ops listed=[]→K e m)∧∀ i∈Region.ready .any ops listed,aAtV G ops i (aAnyV G ops K f (listed.setIfInBounds i true)) e m

theorem okS_same {o:Oper} {e e':Env} (h:∀ t d y ty,stD o=some (t,d,y)→y=.tmp ty→Ev.get e ty=Ev.get e' ty) (hh:okS G o e):okS G o e':=by
 obtain ⟨t,d,y,inf,v,vs,cs,h1,h2,h3,h4,h5,h6⟩:=hh
 exact ⟨t,d,y,inf,v,vs,cs,h1,h2,by rw [← opv_same (x:=y) (e:=e) (e':=e') fun ty hy=>h t d y ty h1 hy]; exact h3,h4,h5,h6⟩

theorem aAnyV_resp {K:Env→HM→Prop} (hK:∀ e e' m,EnvEq e e'→K e m→K e' m):∀ (f:Nat) (listed:Array Bool) (e e':Env) (m:HM),EnvEq e e'→aAnyV G ops K f listed e m→aAnyV G ops K f listed e' m
 | 0,listed,e,e',m,he,h=>⟨h.1,hK _ _ _ he h.2⟩
 | f+1,listed,e,e',m,he,h=>by
  refine ⟨fun h0=>hK _ _ _ he (h.1 h0),fun i hi=>?_⟩
  have hh:=h.2 i hi
  unfold aAtV at *
  split at hh
  ·exact aAnyV_resp hK f _ _ _ _ he hh
  ·rename_i o ho
   split at hh
   ·exact aSt_same (fun t _=>he t) (aSt_mono (fun v m' hx=>aAnyV_resp hK f _ _ _ _ (he.put o.dst v) hx) hh)
   ·exact aAnyV_resp hK f _ _ _ _ he hh
   ·exact ⟨okS_same (fun _ _ _ ty _ _=>he ty) hh.1,aAnyV_resp hK f _ _ _ _ he hh.2⟩

theorem get_putE_ne {d:Option Tmp} {v:TV} {e:Env} {t:Tmp} (h:d≠some t):Ev.get (putE d v e) t=Ev.get e t:=by
 cases d with
 | none=>rfl
 | some d'=>
  simp only [putE,Ev.get]
  have:Nat.beq d' t=false:=by
   cases hb:Nat.beq d' t with
   | false=>rfl
   | true=>exact absurd (by rw [Nat.eq_of_beq_eq_true hb]) h
  rw [this]

theorem unl {listed:Array Bool} {k:Nat} (h0:listed.getD k true=false) (h1:listed.getD k false=true):False:=by
 rcases Nat.lt_or_ge k listed.size with h' | h'
 ·simp [h'] at h0 h1; rw [h0] at h1; cases h1
 ·simp [Array.getElem?_eq_none h'] at h1

theorem ready_store (hS:SpecV G ops) {j i:Nat} {oj oi:Oper} (hj:ops[j]?=some oj) (hcj:clsV oj=2) (hi:ops[i]?=some oi) {listed:Array Bool} (hr:j∈Region.ready .any ops listed) (hun:listed.getD i true=false) :
  ∀ t d y ty,stD oj=some (t,d,y)→y=.tmp ty→oi.dst≠some ty:=by
 intro t d y ty hs hy hd
 obtain ⟨_,t',d',y',a,oa,hs',_,_,_,_,h1,_⟩:=hS.s2 j oj hj hcj
 rw [hs] at hs'
 simp only [Option.some.injEq,Prod.mk.injEq] at hs'
 obtain ⟨rfl,rfl,rfl⟩:=hs'
 have he:=h1 i oi ty hi hy hd
 unfold edgeV at he
 obtain ⟨dd,hdd,hb⟩:=Array.any_eq_true'.1 he
 simp only [Bool.and_eq_true] at hb
 obtain ⟨_,oj',hoj',hall⟩:=mem_ready.1 hr
 rw [hj] at hoj'
 simp only [Option.some.injEq] at hoj'
 subst hoj'
 have h2:=hall dd hdd hb.1
 rw [Nat.eq_of_beq_eq_true hb.2] at h2
 exact unl hun h2

theorem aAnyV_first (hG:CfgOk G) (hS:SpecV G ops) {K:Env→HM→Prop} (hK:∀ e e' m,EnvEq e e'→K e m→K e' m) {i:Nat} {oi:Oper} (hi:ops[i]?=some oi) (hci:clsV oi=0) (A:Nat→Bool)
  (hA:∀ j oj,ops[j]?=some oj→A j=true→∃ d∈oj.after,Region.binds .any d=true∧(d.on=i∨A d.on=true)) :
  ∀ (f:Nat) (listed:Array Bool) (e:Env) (m:HM),(∀ j,A j=true→listed.getD j true=false) →
   (∀ j oj,ops[j]?=some oj→j≠i→listed.getD j true=false→A j=false→clsV oj=0→oi.apart ops oj=true∧compat (opKind G oi.op) (opKind G oj.op)=true) →
   i∈Region.ready .any ops listed→aSt G ops oi e m (fun v m'=>aAnyV G ops K f (listed.setIfInBounds i true) (putE oi.dst v e) m')→aAnyV G ops K (f+1) listed e m:=by
 intro f
 induction f with
 | zero=>
  intro listed e m _ _ hr H
  refine ⟨fun h=>(by rw [h] at hr; cases hr),fun j hj=>?_⟩
  by_cases hji:j=i
  ·subst hji; unfold aAtV; simp only [hi,hci]; exact H
  ·have:=ready_mono hj hji
   obtain ⟨v,m',hh⟩:=aSt_strict hG H
   rw [hh.1] at this
   cases this
 | succ f ih=>
  intro listed e m hlist hfree hr H
  refine ⟨fun h=>(by rw [h] at hr; cases hr),fun j hj=>?_⟩
  by_cases hji:j=i
  ·subst hji; unfold aAtV; simp only [hi,hci]; exact H
  ·obtain ⟨hjun,oj,hoj,hall⟩:=mem_ready.1 hj
   have hiun:=(mem_ready.1 hr).1
   have hnot:A j=false:=by
    cases hAj:A j with
    | false=>rfl
    | true=>
     obtain ⟨d,hd,hb,hon⟩:=hA j oj hoj hAj
     have h1:=hall d hd hb
     rcases hon with heq | heq
     ·rw [heq] at h1
      exact (unl hiun h1).elim
     ·exact (unl (hlist d.on heq) h1).elim
   have next:∀ (e':Env) (m':HM),aSt G ops oi e' m' (fun v m2=>aAnyV G ops K f ((listed.setIfInBounds i true).setIfInBounds j true) (putE oi.dst v e') m2)→aAnyV G ops K (f+1) (listed.setIfInBounds j true) e' m':=fun e' m' hh=>by
    refine ih (listed.setIfInBounds j true) e' m' (fun k hk=>?_) (fun k ok hk hki hun hno hck=>?_) (ready_mono hr (Ne.symm hji)) (aSt_mono (fun vi m2 hh'=>?_) hh)
    ·have hjk:¬ j=k:=fun h=>by rw [← h,hnot] at hk; cases hk
     rw [getD_set_ne true hjk]
     exact hlist k hk
    ·refine hfree k ok hk hki ?_ hno hck
     by_cases hjk:j=k
     ·subst hjk; exact hjun
     ·rw [getD_set_ne true hjk] at hun; exact hun
    ·rw [Array.setIfInBounds_comm _ _ (Ne.symm hji)] at hh'
     exact hh'
   unfold aAtV
   simp only [hoj]
   have inner:aSt G ops oi e m fun vi m1=>aAtV G ops j (aAnyV G ops K f ((listed.setIfInBounds i true).setIfInBounds j true)) (putE oi.dst vi e) m1:=
    aSt_mono (fun v m' hh=>hh.2 j (ready_mono hj hji)) H
   unfold aAtV at inner
   simp only [hoj] at inner
   rcases clsV_cases oj with hcj | hcj | hcj
   ·simp only [hcj] at inner ⊢
    obtain ⟨hap,hco⟩:=hfree j oj hoj hji hjun hnot hcj
    have h2:=swap hG hap hco inner
    refine aSt_mono (fun vj m1 hh=>?_) h2
    refine next _ _ (aSt_mono (fun vi m2 hh'=>?_) hh)
    exact aAnyV_resp hK f _ _ _ _ (put_comm (fun d hd hd'=>(Oper.apart_spec hap).2.1 d hd' hd) vj vi e) hh'
   ·simp only [hcj] at inner ⊢
    exact next _ _ inner
   ·simp only [hcj] at inner ⊢
    refine ⟨?_,next _ _ (aSt_mono (fun _ _ hh=>hh.2) inner)⟩
    obtain ⟨v,m',hh⟩:=aSt_strict hG inner
    exact okS_same (fun t d y ty hs hy=>get_putE_ne (ready_store hS hoj hcj hi hj hiun t d y ty hs hy)) hh.1

theorem aAnyV_skip (_hG:CfgOk G) (hS:SpecV G ops) {K:Env→HM→Prop} {i:Nat} {oi:Oper} (hi:ops[i]?=some oi) (hci:clsV oi≠0) :
  ∀ (f:Nat) (listed:Array Bool) (e:Env) (m:HM),i∈Region.ready .any ops listed→(clsV oi=2→okS G oi e)→aAnyV G ops K f (listed.setIfInBounds i true) e m→aAnyV G ops K (f+1) listed e m:=by
 have own:∀ (f:Nat) (listed:Array Bool) (e:Env) (m:HM),(clsV oi=2→okS G oi e)→aAnyV G ops K f (listed.setIfInBounds i true) e m→aAtV G ops i (aAnyV G ops K f (listed.setIfInBounds i true)) e m:=fun f listed e m ho H=>by
  unfold aAtV
  simp only [hi]
  rcases clsV_cases oi with h | h | h
  ·exact absurd h hci
  ·simp only [h]; exact H
  ·simp only [h]; exact ⟨ho h,H⟩
 intro f
 induction f with
 | zero=>
  intro listed e m hr ho H
  refine ⟨fun h=>(by rw [h] at hr; cases hr),fun j hj=>?_⟩
  by_cases hji:j=i
  ·subst hji; exact own _ _ _ _ ho H
  ·have:=ready_mono hj hji
   rw [H.1] at this
   cases this
 | succ f ih=>
  intro listed e m hr ho H
  refine ⟨fun h=>(by rw [h] at hr; cases hr),fun j hj=>?_⟩
  by_cases hji:j=i
  ·subst hji; exact own _ _ _ _ ho H
  ·have inner:=H.2 j (ready_mono hj hji)
   obtain ⟨hjun,oj,hoj,_⟩:=mem_ready.1 hj
   unfold aAtV at inner ⊢
   simp only [hoj] at inner ⊢
   have step:∀ (e':Env) (m':HM),(clsV oi=2→okS G oi e')→aAnyV G ops K f ((listed.setIfInBounds i true).setIfInBounds j true) e' m'→aAnyV G ops K (f+1) (listed.setIfInBounds j true) e' m':=fun e' m' ho' hh=>by
    refine ih (listed.setIfInBounds j true) e' m' (ready_mono hr (Ne.symm hji)) ho' ?_
    rw [Array.setIfInBounds_comm _ _ (Ne.symm hji)] at hh
    exact hh
   rcases clsV_cases oj with hcj | hcj | hcj
   ·simp only [hcj] at inner ⊢
    refine aSt_mono (fun v m' hh=>step _ _ (fun hc2=>?_) hh) inner
    exact okS_same (fun t d y ty hs hy=>(get_putE_ne (ready_store hS hi hc2 hoj hr hjun t d y ty hs hy)).symm) (ho hc2)
   ·simp only [hcj] at inner ⊢
    exact step _ _ ho inner
   ·simp only [hcj] at inner ⊢
    exact ⟨inner.1,step _ _ ho inner.2⟩

theorem freeV_spec {i:Nat} {oi:Oper} {listed:Array Bool} {M:Nat} (h:freeV G ops listed i oi M=true):∃ A:Nat→Bool,
  (∀ j oj,ops[j]?=some oj→A j=true→∃ d∈oj.after,Region.binds .any d=true∧(d.on=i∨A d.on=true))∧(∀ j,A j=true→listed.getD j true=false) ∧
  (∀ j oj,ops[j]?=some oj→j≠i→listed.getD j true=false→A j=false→clsV oj=0→oi.apart ops oj=true∧compat (opKind G oi.op) (opKind G oj.op)=true):=by
 simp only [freeV,List.all_eq_true,List.mem_range] at h
 refine ⟨fun j=>Nat.blt j ops.size&&M.testBit j,fun j oj hj hAj=>?_,fun j hAj=>?_,fun j oj hj hne hun hAj hcj=>?_⟩
 ·simp only [Bool.and_eq_true] at hAj
  have h1:=h j (Array.getElem?_eq_some_iff.1 hj).1
  simp only [hAj.2,hj,Bool.and_eq_true] at h1
  obtain ⟨d,hd,hb⟩:=Array.any_eq_true'.1 h1.2
  simp only [Bool.and_eq_true,Bool.or_eq_true] at hb
  refine ⟨d,hd,hb.1,?_⟩
  rcases hb.2 with hb | hb
  ·exact .inl (Nat.eq_of_beq_eq_true hb)
  ·exact .inr (by simpa using hb)
 ·simp only [Bool.and_eq_true] at hAj
  have h1:=h j (by simpa using hAj.1)
  simp only [hAj.2,Bool.and_eq_true,beq_iff_eq] at h1
  exact h1.1
 ·have hlt:=(Array.getElem?_eq_some_iff.1 hj).1
  have hb:Nat.blt j ops.size=true:=by simpa using hlt
  have hM:M.testBit j=false:=by simpa [hb] using hAj
  have h1:=h j hlt
  simp only [hM,hj,Bool.or_eq_true,beq_iff_eq,hne,false_or,hun,Bool.false_eq_true,hcj] at h1
  simpa using h1

theorem aAnyV_lex (hG:CfgOk G) (hS:SpecV G ops) {K:Env→HM→Prop} (hK:∀ e e' m,EnvEq e e'→K e m→K e' m) (r:List Nat)
  (hr:∀ k∈r,∃ o,ops[k]?=some o∧clsV o≠0):∀ (l:List Nat) (listed:Array Bool) (e:Env) (m:HM),
  (∀ k∈l,∃ o,ops[k]?=some o∧clsV o=0)→lexV G ops (l++r) listed=true →
  aopsL G ops.toList (pickL ops.toList l) e m (fun e m=>K e m∧∀ k o,k∈r→ops[k]?=some o→clsV o=2→okS G o e)→aAnyV G ops K (l++r).length listed e m
 | [],listed,e,m,_,hB,h=>by
  simp only [List.nil_append] at hB ⊢
  simp only [pickL,aopsL] at h
  obtain ⟨hk,hok⟩:=h
  clear hK
  induction r generalizing listed with
  | nil=>exact ⟨by simpa [lexV] using hB,hk⟩
  | cons k r ih=>
   obtain ⟨o,ho,hc⟩:=hr k (by simp)
   simp only [lexV,ho,Bool.and_eq_true] at hB
   exact aAnyV_skip hG hS ho hc _ _ _ _ (by simpa using hB.1.1) (fun h2=>hok k o (by simp) ho h2)
    (ih (fun k' hk'=>hr k' (by simp [hk'])) _ hB.2 (fun k' o' hk'=>hok k' o' (by simp [hk'])))
 | k::l,listed,e,m,hl,hB,h=>by
  obtain ⟨o,ho,hc⟩:=hl k (by simp)
  simp only [List.cons_append,lexV,ho,hc,Bool.and_eq_true] at hB
  obtain ⟨⟨h1,h2⟩,hB'⟩:=hB
  have h0':ops.toList[k]?=some o:=by simpa using ho
  obtain ⟨A,hA,g1,g2⟩:=freeV_spec h2
  refine aAnyV_first hG hS hK ho hc A hA (l++r).length listed e m g1 g2 (by simpa using h1) ?_
  unfold aSt
  simp only [pickL,h0',aopsL] at h
  have hl':∀ k∈l,∃ o,ops[k]?=some o∧clsV o=0:=fun k' hk'=>hl k' (by simp [hk'])
  split at h
  ·rename_i hw; (try simp only [hw]); exact aop_mono (fun v m' hh=>aAnyV_lex hG hS hK r hr l _ _ _ hl' hB' hh) h
  ·rename_i hw; (try simp only []); exact aAnyV_lex hG hS hK r hr l _ _ _ hl' hB' h
  ·exact h.elim

theorem aopsL_mono' {all:List Oper} {K K':Env→HM→Prop} (hk:∀ e m,K e m→K' e m):∀ {l:List Oper} {e:Env} {m:HM},aopsL G all l e m K→aopsL G all l e m K'
 | [],_,_,h=>hk _ _ h
 | o::l,e,m,h=>by
  simp only [aopsL] at h ⊢
  split at h
  ·exact aop_mono (fun v m' hh=>aopsL_mono' hk hh) h
  ·exact aopsL_mono' hk h
  ·exact h

theorem okS_back (hG:CfgOk G) {K:Env→HM→Prop} (r:List Nat):∀ (l:List Nat) (e:Env) (m:HM),trailOk ops l r=true →
  aopsL G ops.toList (pickL ops.toList l) e m (fun e m=>K e m∧∀ k o,k∈r→ops[k]?=some o→clsV o=2→okS G o e) →
  aopsL G ops.toList (pickL ops.toList l) e m K∧∀ k o,k∈r→ops[k]?=some o→clsV o=2→okS G o e
 | [],e,m,_,h=>by
  simp only [pickL,aopsL] at h ⊢
  exact h
 | j::l,e,m,ht,h=>by
  simp only [trailOk,List.all_cons,Bool.and_eq_true] at ht
  obtain ⟨ht1,ht2⟩:=ht
  cases hj:ops[j]? with
  | none=>
   have h0:ops.toList[j]?=none:=by simpa using hj
   simp only [pickL,h0] at h ⊢
   exact okS_back hG r l e m ht2 h
  | some oj=>
   have h0:ops.toList[j]?=some oj:=by simpa using hj
   simp only [pickL,h0,aopsL] at h ⊢
   have back:∀ v,(∀ k o,k∈r→ops[k]?=some o→clsV o=2→okS G o (putE oj.dst v e))→∀ k o,k∈r→ops[k]?=some o→clsV o=2→okS G o e:=fun v hv k o hk ho hc=>by
    refine okS_same (fun t d y ty hs hy=>?_) (hv k o hk ho hc)
    refine get_putE_ne fun hd=>?_
    have:=List.all_eq_true.1 ht1 k hk
    subst hy
    simp only [hj,ho,hs,opTmp,hd] at this
    simp at this
   split at h
   ·rename_i hw
    refine ⟨aop_mono (fun v m' hh=>(okS_back hG r l _ _ ht2 hh).1) h,?_⟩
    obtain ⟨v,m',hh⟩:=aop_strict hG h
    exact back v (okS_back hG r l _ _ ht2 hh).2
   ·rename_i hw
    exact ⟨(okS_back hG r l _ _ ht2 h).1,back _ (okS_back hG r l _ _ ht2 h).2⟩
   ·exact h.elim

theorem aAnyV_mid (hG:CfgOk G) (hS:SpecV G ops) {K:Env→HM→Prop} (hK:∀ e e' m,EnvEq e e'→K e m→K e' m) (tr:List Nat) (htr:∀ k∈tr,∃ o,ops[k]?=some o∧clsV o=0):∀ (r:List Nat) (listed:Array Bool) (e:Env) (m:HM),
  (∀ k∈r,∃ o,ops[k]?=some o∧clsV o≠0)→lexV G ops (r++tr) listed=true→(∀ k o,k∈r→ops[k]?=some o→clsV o=2→okS G o e)→aopsL G ops.toList (pickL ops.toList tr) e m K→aAnyV G ops K (r++tr).length listed e m
 | [],listed,e,m,_,hB,_,h=>by
  have:=aAnyV_lex hG hS hK [] (fun k hk=>by cases hk) tr listed e m htr (by rw [List.append_nil]; exact hB) (aopsL_mono' (fun _ _ hh=>⟨hh,fun k o hk=>by cases hk⟩) h)
  rw [List.append_nil] at this
  exact this
 | k::r,listed,e,m,hr,hB,hok,h=>by
  obtain ⟨o,ho,hc⟩:=hr k (by simp)
  simp only [List.cons_append,lexV,ho,Bool.and_eq_true] at hB
  exact aAnyV_skip hG hS ho hc _ _ _ _ (by simpa using hB.1.1) (fun h2=>hok k o (by simp) ho h2)
   (aAnyV_mid hG hS hK tr htr r _ _ _ (fun k' hk'=>hr k' (by simp [hk'])) hB.2 (fun k' o' hk'=>hok k' o' (by simp [hk'])) h)

theorem aAnyV_lex2 (hG:CfgOk G) (hS:SpecV G ops) {K:Env→HM→Prop} (hK:∀ e e' m,EnvEq e e'→K e m→K e' m) (r tr:List Nat)
  (hr:∀ k∈r,∃ o,ops[k]?=some o∧clsV o≠0) (htr:∀ k∈tr,∃ o,ops[k]?=some o∧clsV o=0) (ht:trailOk ops tr r=true):∀ (l:List Nat) (listed:Array Bool) (e:Env) (m:HM),
  (∀ k∈l,∃ o,ops[k]?=some o∧clsV o=0)→lexV G ops (l++(r++tr)) listed=true →
  aopsL G ops.toList (pickL ops.toList l) e m (fun e m=>aopsL G ops.toList (pickL ops.toList tr) e m fun e m=>K e m∧∀ k o,k∈r→ops[k]?=some o→clsV o=2→okS G o e)→aAnyV G ops K (l++(r++tr)).length listed e m
 | [],listed,e,m,_,hB,h=>by
  simp only [List.nil_append] at hB ⊢
  simp only [pickL,aopsL] at h
  obtain ⟨h1,h2⟩:=okS_back hG r tr e m ht h
  exact aAnyV_mid hG hS hK tr htr r listed e m hr hB h2 h1
 | k::l,listed,e,m,hl,hB,h=>by
  obtain ⟨o,ho,hc⟩:=hl k (by simp)
  simp only [List.cons_append,lexV,ho,hc,Bool.and_eq_true] at hB
  obtain ⟨⟨h1,h2⟩,hB'⟩:=hB
  have h0':ops.toList[k]?=some o:=by simpa using ho
  obtain ⟨A,hA,g1,g2⟩:=freeV_spec h2
  refine aAnyV_first hG hS hK ho hc A hA (l++(r++tr)).length listed e m g1 g2 (by simpa using h1) ?_
  unfold aSt
  simp only [pickL,h0',aopsL] at h
  have hl':∀ k∈l,∃ o,ops[k]?=some o∧clsV o=0:=fun k' hk'=>hl k' (by simp [hk'])
  split at h
  ·rename_i hw; (try simp only [hw]); exact aop_mono (fun v m' hh=>aAnyV_lex2 hG hS hK r tr hr htr ht l _ _ _ hl' hB' hh) h
  ·rename_i hw; (try simp only []); exact aAnyV_lex2 hG hS hK r tr hr htr ht l _ _ _ hl' hB' h
  ·exact h.elim

end

section
variable {G:Cfg} {ops:Array Oper} {N:Nat} {A:Base}

theorem Rel.drop {c:Con} {m:HM} {x:Option Blk} {w:World} (hcl:∀ b y,nth m.bs b=some y→closedL m.bs.length y.cells=true) (h:Rel A c ⟨m.bs++[x],m.N⟩ w):Rel A c m w:=
 have up:∀ b y,nth m.bs b=some y→nth (m.bs++[x]) b=some y:=fun b y hy=>by rw [nth_append_lt (nth_lt hy)]; exact hy
 ⟨fun b y hy=>h.blk b y (up b y hy),hcl,fun a b x y hx hy=>h.inj a b x y (up a x hx) (up b y hy),fun b hb=>h.lt b (by simp only [List.length_append]; omega),h.baseA,h.baseN,
  fun b y o hy=>h.sepA b y o (up b y hy),fun b y o hy=>h.sepN b y o (up b y hy)⟩

theorem nth_snoc {m:Mem} {x:Option Blk} {b:Nat} {y:Blk} (hy:nth (m++[x]) b=some y):(b<m.length∧nth m b=some y)∨(b=m.length∧x=some y):=by
 have hlt:=nth_lt hy
 simp only [List.length_append,List.length_cons,List.length_nil] at hlt
 by_cases hb:b<m.length
 ·rw [nth_append_lt hb] at hy; exact .inl ⟨hb,hy⟩
 ·have:b=m.length:=by omega
  subst this
  rw [nth_append_last] at hy
  exact .inr ⟨rfl,hy⟩

theorem Rel.adopt {c:Con} {m:HM} {w:World} (h:Rel A c m w) {x:Blk} {r:Nat} (hgr:x.grows=false) (hcl:closedL m.bs.length x.cells=true)
  (hr:w.heap[r]?=some (.cells (x.cells.map (Sc.conc c)).toArray x.elem)) (hne:∀ b y,nth m.bs b=some y→c.ι b≠r) (hA:∀ o,¬ A r o) (hN:∀ o,¬ m.N r o) :
  Rel A (c.add m.bs.length r 0) ⟨m.bs++[some x],m.N⟩ w:=by
 have hag:=Con.add_agree c m.bs.length r 0
 have hι:∀ b,b<m.bs.length→(c.add m.bs.length r 0).ι b=c.ι b:=fun b hb=>(hag b hb).1
 have hlast:(c.add m.bs.length r 0).ι m.bs.length=r:=by simp [Con.add]
 refine ⟨fun b y hy=>?_,fun b y hy=>?_,fun b d y z hy hz e=>?_,fun b hb=>?_,h.baseA,h.baseN,fun b y o hy=>?_,fun b y o hy=>?_⟩
 ·rcases nth_snoc hy with ⟨hb,hy⟩ | ⟨rfl,hx⟩
  ·obtain ⟨junk,h1,h2,h3⟩:=h.blk b y hy
   refine ⟨junk,?_,h2,h3⟩
   rw [hι b hb,concL_agree hag (h.cl b y hy)]
   exact h1
  ·simp only [Option.some.injEq] at hx
   subst hx
   refine ⟨[],?_,fun _=>rfl,fun hg=>?_⟩
   ·rw [hlast,concL_agree hag hcl,List.append_nil]
    exact hr
   ·rw [hgr] at hg; cases hg
 ·rcases nth_snoc hy with ⟨hb,hy⟩ | ⟨rfl,hx⟩
  ·exact closedL_mono (by simp) (h.cl b y hy)
  ·simp only [Option.some.injEq] at hx
   subst hx
   exact closedL_mono (by simp) hcl
 ·rcases nth_snoc hy with ⟨hb,hy⟩ | ⟨rfl,hx⟩<;>rcases nth_snoc hz with ⟨hd,hz⟩ | ⟨rfl,hx'⟩
  ·rw [hι b hb,hι d hd] at e; exact h.inj b d y z hy hz e
  ·rw [hι b hb,hlast] at e; exact absurd e (hne b y hy)
  ·rw [hι d hd,hlast] at e; exact absurd e.symm (hne d z hz)
  ·rfl
 ·simp only [List.length_append,List.length_cons,List.length_nil] at hb
  by_cases hlt:b<m.bs.length
  ·rw [hι b hlt]; exact h.lt b hlt
  ·have:b=m.bs.length:=by omega
   subst this; rw [hlast]; exact (Array.getElem?_eq_some_iff.1 hr).1
 ·rcases nth_snoc hy with ⟨hb,hy⟩ | ⟨rfl,_⟩
  ·rw [hι b hb]; exact h.sepA b y o hy
  ·rw [hlast]; exact hA o
 ·rcases nth_snoc hy with ⟨hb,hy⟩ | ⟨rfl,_⟩
  ·rw [hι b hb]; exact h.sepN b y o hy
  ·rw [hlast]; exact hN o

theorem Since.adopt {c0 c:Con} {m0 m:HM} {w0 w:World} (h:Since c0 m0 w0 c m w) {x:Option Blk} {r:Nat} (hr:w0.heap.size≤r):Since c0 m0 w0 (c.add m.bs.length r 0) ⟨m.bs++[x],m.N⟩ w:=by
 have hag:=Con.add_agree c m.bs.length r 0
 refine ⟨by have:=h.le; simp only [List.length_append]; omega,fun b hb=>?_,h.same,h.keep,fun b y hy hb=>?_,fun b y hy hb=>?_,h.newN⟩
 ·have h1:=h.agree b hb
  have h2:=hag b (Nat.lt_of_lt_of_le hb h.le)
  exact ⟨h2.1.trans h1.1,h2.2.trans h1.2⟩
 ·rcases nth_snoc hy with ⟨hlt,hy⟩ | ⟨rfl,_⟩
  ·rw [(hag b hlt).1]; exact h.fresh b y hy hb
  ·left; simp [Con.add]; exact hr
 ·rcases nth_snoc hy with ⟨_,hy⟩ | ⟨rfl,_⟩
  ·exact h.live b y hy hb
  ·have:=h.le; omega

theorem Since.drop {c0 c:Con} {m0 m:HM} {w0 w:World} {x:Option Blk} (hle:m0.bs.length≤m.bs.length) (h:Since c0 m0 w0 c ⟨m.bs++[x],m.N⟩ w):Since c0 m0 w0 c m w:=
 have up:∀ b y,nth m.bs b=some y→nth (m.bs++[x]) b=some y:=fun b y hy=>by rw [nth_append_lt (nth_lt hy)]; exact hy
 ⟨hle,h.agree,h.same,h.keep,fun b y hy hb=>h.fresh b y (up b y hy) hb,fun b y hy hb=>h.live b y (up b y hy) hb,h.newN⟩

theorem setB_snoc (m:Mem) (x y:Option Blk):setB (m++[x]) m.length y=m++[y]:=by
 rw [setB_eq]
 simp

theorem set_or {listed:Array Bool} {i j:Nat} (h:(listed.setIfInBounds i true).getD j false=true):j=i∨listed.getD j false=true:=by
 by_cases hij:i=j
 ·exact .inl hij.symm
 ·rw [getD_set_ne false hij] at h; exact .inr h

theorem set_mono {listed:Array Bool} {i j:Nat} (h:listed.getD j false=true):(listed.setIfInBounds i true).getD j false=true:=by
 by_cases hij:i=j
 ·subst hij
  rcases Nat.lt_or_ge i listed.size with h' | h'
  ·simp [h']
  ·simp [Array.getElem?_eq_none h'] at h
 ·rw [getD_set_ne false hij]; exact h

structure InvV (G:Cfg) (ops:Array Oper) (N:Nat) (c0:Con) (m0:HM) (w0:World) (R:Nat→Nat) (listed:Array Bool) (c:Con) (m:HM) (e:Env) (a:Act) (w:World):Prop where
 st:St G N c m e a w
 since:Since c0 m0 w0 c m w
 size:listed.size=ops.size
 no:∀ (i:Nat) (o:Oper) (t:TypeId) (d:Tmp),ops[i]?=some o→clsV o=1→mkD o=some (t,d)→Ev.get e d=none
 edges:∀ (i:Nat) (o:Oper) (k:Nat),ops[i]?=some o→listed.getD i false=true→edgeV o k=true→listed.getD k false=true
 var:∀ (i:Nat) (o:Oper) (t:TypeId) (d:Tmp),ops[i]?=some o→clsV o=1→mkD o=some (t,d)→listed.getD i false=true →
  a.tmps.getD d undef=.pointer (some ⟨R i,0,none⟩)∧w0.heap.size≤R i∧R i<w.heap.size∧(∀ b x,nth m.bs b=some x→c.ι b≠R i)∧∀ o',¬ m.N (R i) o'
 zero:∀ (i:Nat) (o:Oper) (t:TypeId) (d:Tmp) (inf:TyI),ops[i]?=some o→clsV o=1→mkD o=some (t,d)→listed.getD i false=true→lk G.T t=some inf →
  (∀ (k:Nat) (ok:Oper) (y:Operand),ops[k]?=some ok→clsV ok=2→stD ok=some (t,d,y)→listed.getD k false=false)→w.heap[R i]?=some (.cells (inf.zero.map (Sc.conc c)).toArray t)
 val:∀ (k:Nat) (o:Oper) (t:TypeId) (d:Tmp) (y:Operand) (i:Nat) (oi:Oper),ops[k]?=some o→clsV o=2→stD o=some (t,d,y)→listed.getD k false=true→ops[i]?=some oi→clsV oi=1→mkD oi=some (t,d) →
  ∃ inf v vs cs,lk G.T t=some inf∧opv e y=some v∧v.cells=some vs∧Nat.beq inf.size vs.length=true∧putAt inf.zero 0 vs=some cs∧w.heap[R i]?=some (.cells (cs.map (Sc.conc c)).toArray t)
 inj:∀ (i j:Nat) (oi oj:Oper),ops[i]?=some oi→clsV oi=1→ops[j]?=some oj→clsV oj=1→listed.getD i false=true→listed.getD j false=true→R i=R j→i=j

theorem ready_edges {listed:Array Bool} {i:Nat} {o:Oper} (ho:ops[i]?=some o) (hr:i∈Region.ready .any ops listed) {k:Nat} (he:edgeV o k=true):listed.getD k false=true:=by
 obtain ⟨dd,hdd,hb⟩:=Array.any_eq_true'.1 he
 simp only [Bool.and_eq_true] at hb
 obtain ⟨_,o',ho',hall⟩:=mem_ready.1 hr
 rw [ho] at ho'
 simp only [Option.some.injEq] at ho'
 subst ho'
 have:=hall dd hdd hb.1
 rwa [Nat.eq_of_beq_eq_true hb.2] at this

theorem cells_cl {inf:TyI} {n:Nat} (hz:closedL 0 inf.zero=true) {v:TV} {vs cs:List Sc} (hv:v.closed n=true) (h1:v.cells=some vs) (h2:putAt inf.zero 0 vs=some cs):closedL n cs=true:=
 putAt_closed h2 (closedL_mono (Nat.zero_le n) hz) (TV.cells_closed h1 hv)

theorem opv_closed {c:Con} {n:Nat} {e:Env} {a:Act} (hf:Fits c n e a) {y:Operand} {v:TV} (h:opv e y=some v):v.closed n=true:=(opv_sound hf h).2

theorem InvV.comp (hG:CfgOk G) (hS:SpecV G ops) {c0 c c':Con} {m0 m m':HM} {w0 w w':World} {R:Nat→Nat} {listed:Array Bool} {e:Env} {a:Act} (h:InvV G ops N c0 m0 w0 R listed c m e a w)
  {i:Nat} {o:Oper} (ho:ops[i]?=some o) (hc:clsV o=0) (hr:i∈Region.ready .any ops listed) (hd:dstOk N o=true) {v:TV}
  (h1:Rel G.A c' m' w') (h2:Since c m w c' m' w') (h3:v.closed m'.bs.length=true) :
  InvV G ops N c0 m0 w0 R (listed.setIfInBounds i true) c' m' (putE o.dst v e) (a.put o.dst (v.conc c')) w':=by
 have hun:=(mem_ready.1 hr).1
 have hag:=h2.agree
 have keep:∀ r,r<w.heap.size→(∀ b x,nth m.bs b=some x→c.ι b≠r)→w'.heap[r]?=w.heap[r]?:=h2.keep
 have dne:∀ (j:Nat) (oj:Oper) (t:TypeId) (d:Tmp),ops[j]?=some oj→clsV oj=1→mkD oj=some (t,d)→o.dst≠some d:=fun j oj t d hj hcj hm=>by
  obtain ⟨t',d',g1,g2,_,g3,_⟩:=hS.a1 j oj hj hcj
  obtain ⟨q1,q2⟩:=mkD_some hm
  rw [g2] at q2
  simp only [Option.some.injEq] at q2
  subst q2
  exact g3 i o ho (fun e=>by subst e; rw [ho] at hj; simp only [Option.some.injEq] at hj; subst hj; rw [hc] at hcj; cases hcj)
 have old1:∀ j oj,ops[j]?=some oj→clsV oj≠0→(listed.setIfInBounds i true).getD j false=true→listed.getD j false=true:=fun j oj hj hcj hl=>by
  rcases set_or hl with rfl | hl
  ·rw [ho] at hj; simp only [Option.some.injEq] at hj; subst hj; exact absurd hc hcj
  ·exact hl
 refine ⟨h.st.step hd h1 h2 h3,h.since.trans h2,by simp [h.size],fun j oj t d hj hcj hm=>?_,fun j oj k hj hl he=>?_,fun j oj t d hj hcj hm hl=>?_,fun j oj t d inf hj hcj hm hl hlk hno=>?_,
  fun k ok t d y j oj hk hck hs hl hj hcj hm=>?_,fun j k oj ok hj hcj hk hck hlj hlk he=>?_⟩
 ·rw [get_putE_ne (dne j oj t d hj hcj hm)]; exact h.no j oj t d hj hcj hm
 ·rcases set_or hl with rfl | hl
  ·rw [ho] at hj; simp only [Option.some.injEq] at hj; subst hj
   exact set_mono (ready_edges ho hr he)
  ·exact set_mono (h.edges j oj k hj hl he)
 ·obtain ⟨g1,g2,g3,g4,g5⟩:=h.var j oj t d hj hcj hm (old1 j oj hj (by rw [hcj]; decide) hl)
  refine ⟨?_,g2,Nat.lt_of_lt_of_le g3 h2.same.size,fun b x hx he=>?_,fun o' ho'=>?_⟩
  rotate_left
  ·rcases Nat.lt_or_ge b m.bs.length with hb | hb
   ·obtain ⟨y,hy⟩:=h2.live b x hx hb
    rw [(hag b hb).1] at he
    exact g4 b y hy he
   ·rcases h2.fresh b x hx hb with hf | ⟨q,y,hq,hf⟩
    ·omega
    ·exact g4 q y hq (hf ▸ he)
  ·rcases h2.newN _ _ ho' with hn | hn | ⟨q,y,hq,hn⟩
   ·exact g5 _ hn
   ·omega
   ·exact g4 q y hq hn
  have hne:=dne j oj t d hj hcj hm
  cases hod:o.dst with
  | none=>exact g1
  | some d'=>
   rw [hod] at hne
   have hne:d'≠d:=fun e=>hne (by rw [e])
   simp only [Act.put]
   rw [← g1]
   simp [Array.getD_eq_getD_getElem?,Array.getElem?_setIfInBounds_ne hne]
 ·have hl':=old1 j oj hj (by rw [hcj]; decide) hl
  obtain ⟨_,_,g3,g4,_⟩:=h.var j oj t d hj hcj hm hl'
  have hz:=(hG.tys _ _ hlk).zc
  rw [keep _ g3 g4,concL_agree (h:=h2.agree) (closedL_mono (Nat.zero_le _) hz)]
  exact h.zero j oj t d inf hj hcj hm hl' hlk fun k ok y hk hck hs=>by
   have:=hno k ok y hk hck hs
   cases hh:listed.getD k false with
   | false=>rfl
   | true=>rw [set_mono hh] at this; cases this
 ·have hl':=old1 k ok hk (by rw [hck]; decide) hl
  obtain ⟨inf,u,vs,cs,g1,g2,g3,g4,g5,g6⟩:=h.val k ok t d y j oj hk hck hs hl' hj hcj hm
  obtain ⟨_,t',d',y',aa,oa,hs',hoa,hca,hma,hea,hdef,_⟩:=hS.s2 k ok hk hck
  rw [hs] at hs'
  simp only [Option.some.injEq,Prod.mk.injEq] at hs'
  obtain ⟨rfl,rfl,rfl⟩:=hs'
  have hjl:listed.getD j false=true:=by
   have:=h.edges k ok aa hk hl' hea
   obtain ⟨t1,d1,q1,q2,_,q3,_⟩:=hS.a1 aa oa hoa hca
   obtain ⟨p1,p2⟩:=mkD_some hma
   obtain ⟨p3,p4⟩:=mkD_some hm
   by_cases haj:j=aa
   ·rw [haj]; exact this
   ·rw [p2] at q2
    simp only [Option.some.injEq] at q2
    subst q2
    exact absurd p4 (q3 j oj hj haj)
  obtain ⟨_,_,r3,r4,_⟩:=h.var j oj t d hj hcj hm hjl
  refine ⟨inf,u,vs,cs,g1,?_,g3,g4,g5,?_⟩
  ·rw [← g2]
   refine opv_same fun ty hy=>?_
   refine get_putE_ne fun hd'=>?_
   exact unl hun (h.edges k ok i hk hl' (hdef i o ty ho hy hd'))
  ·rw [keep _ r3 r4,concL_agree (h:=h2.agree) (cells_cl (hG.tys _ _ g1).zc (opv_closed h.st.fits g2) g3 g5)]
   exact g6
 ·exact h.inj j k oj ok hj hcj hk hck (old1 j oj hj (by rw [hcj]; decide) hlj) (old1 k ok hk (by rw [hck]; decide) hlk) he

theorem InvV.mk1 (hG:CfgOk G) (hS:SpecV G ops) {c0 c c':Con} {m0 m:HM} {w0 w w':World} {R:Nat→Nat} {listed:Array Bool} {e:Env} {a:Act} (h:InvV G ops N c0 m0 w0 R listed c m e a w)
  {i:Nat} {o:Oper} {t:TypeId} {d:Tmp} {inf:TyI} (ho:ops[i]?=some o) (hc:clsV o=1) (hm:mkD o=some (t,d)) (hlk:lk G.T t=some inf) (hr:i∈Region.ready .any ops listed) (hd:dstOk N o=true)
  (h1:Rel G.A c' ⟨m.bs++[some ⟨inf.zero,t,0,false⟩],m.N⟩ w') (h2:Since c m w c' ⟨m.bs++[some ⟨inf.zero,t,0,false⟩],m.N⟩ w') :
  InvV G ops N c0 m0 w0 (fun j=>if j=i then c'.ι m.bs.length else R j) (listed.setIfInBounds i true) c' m e (a.put o.dst ((TV.one (.ptr (some (.loc m.bs.length 0)))).conc c')) w':=by
 have hun:=(mem_ready.1 hr).1
 have hag:=h2.agree
 have hz:=(hG.tys _ _ hlk).zc
 have keep:∀ r,r<w.heap.size→(∀ b x,nth m.bs b=some x→c.ι b≠r)→w'.heap[r]?=w.heap[r]?:=h2.keep
 have hd2:Since c m w c' m w':=Since.drop (Nat.le_refl _) h2
 have hblk:nth (m.bs++[some ⟨inf.zero,t,0,false⟩]) m.bs.length=some ⟨inf.zero,t,0,false⟩:=by rw [nth_append_last]
 obtain ⟨t0,d0,g1,g2,_,g3,g4,g5⟩:=hS.a1 i o ho hc
 obtain ⟨q1,q2⟩:=mkD_some hm
 rw [g1] at q1
 rw [g2] at q2
 simp only [Op.alloc.injEq,Option.some.injEq] at q1 q2
 subst q1 q2
 have hfr:w.heap.size≤c'.ι m.bs.length:=by
  rcases h2.fresh _ _ hblk (Nat.le_refl _) with hf | ⟨b,y,hy,he⟩
  ·exact hf
  ·exfalso
   have hb:=nth_lt hy
   have:=h1.inj m.bs.length b _ y hblk (by rw [nth_append_lt hb]; exact hy) (by rw [he,(hag b hb).1])
   omega
 have hlt:c'.ι m.bs.length<w'.heap.size:=h1.lt _ (by simp)
 have notι:∀ b x,nth m.bs b=some x→c'.ι b≠c'.ι m.bs.length:=fun b x hx he=>by
  have hb:=nth_lt hx
  have:=h1.inj b m.bs.length x _ (by rw [nth_append_lt hb]; exact hx) hblk he
  omega
 obtain ⟨junk,hcell,hj,_⟩:=h1.blk _ _ hblk
 have hj:=hj rfl
 subst hj
 rw [List.append_nil] at hcell
 have hdN:d0<a.tmps.size:=by
  simp only [dstOk,g2,blt_lt] at hd
  exact Nat.lt_of_lt_of_le hd h.st.size
 have oldR:∀ j,listed.getD j false=true→(if j=i then c'.ι m.bs.length else R j)=R j:=fun j hl=>by
  rw [if_neg]
  rintro rfl
  exact unl hun hl
 refine ⟨⟨h1.drop h.st.rel.cl,⟨fun s u hu=>?_,by rw [g2]; exact h.st.fits.defers⟩,by rw [put_size]; exact h.st.size⟩,h.since.trans hd2,by simp [h.size],h.no,fun j oj k hj hl he=>?_,
  fun j oj t' d' hj hcj hmj hl=>?_,fun j oj t' d' inf' hj hcj hmj hl hlk' hno=>?_,fun k ok t' d' y j oj hk hck hs hl hj hcj hmj=>?_,fun j k oj ok hj hcj hk hck hlj hlk' he=>?_⟩
 ·obtain ⟨e1,e2⟩:=h.st.fits.get s u hu
  refine ⟨?_,e2⟩
  have hne:d0≠s:=by
   rintro rfl
   rw [h.no i o _ d0 ho hc hm] at hu
   cases hu
  rw [g2]
  simp only [Act.put]
  rw [TV.conc_agree (h:=h2.agree) e2,← e1]
  simp [Array.getD_eq_getD_getElem?,Array.getElem?_setIfInBounds_ne hne]
 ·rcases set_or hl with rfl | hl
  ·rw [ho] at hj; simp only [Option.some.injEq] at hj; subst hj
   exact set_mono (ready_edges ho hr he)
  ·exact set_mono (h.edges j oj k hj hl he)
 ·rw [g2]
  by_cases hji:j=i
  ·subst hji
   rw [ho] at hj
   simp only [Option.some.injEq] at hj
   subst hj
   rw [hm] at hmj
   simp only [Option.some.injEq,Prod.mk.injEq] at hmj
   obtain ⟨rfl,rfl⟩:=hmj
   rw [if_pos rfl]
   refine ⟨?_,Nat.le_trans h.since.same.size hfr,hlt,notι,fun o' ho'=>h1.sepN m.bs.length _ o' hblk ho'⟩
   simp [Act.put,Array.getD,hdN,TV.conc,Sc.conc,SP.conc]
  ·rw [if_neg hji]
   have hl':listed.getD j false=true:=by rw [getD_set_ne false (Ne.symm hji)] at hl; exact hl
   obtain ⟨r1,r2,r3,r4,r5⟩:=h.var j oj t' d' hj hcj hmj hl'
   refine ⟨?_,r2,Nat.lt_of_lt_of_le r3 h2.same.size,fun b x hx=>by rw [(hag b (nth_lt hx)).1]; exact r4 b x hx,r5⟩
   have hne:d0≠d':=by
    rintro rfl
    exact g3 j oj hj hji (mkD_some hmj).2
   simp only [Act.put]
   rw [← r1]
   simp [Array.getD_eq_getD_getElem?,Array.getElem?_setIfInBounds_ne hne]
 ·by_cases hji:j=i
  ·subst hji
   rw [ho] at hj
   simp only [Option.some.injEq] at hj
   subst hj
   rw [hm] at hmj
   simp only [Option.some.injEq,Prod.mk.injEq] at hmj
   obtain ⟨rfl,rfl⟩:=hmj
   rw [hlk] at hlk'
   simp only [Option.some.injEq] at hlk'
   subst hlk'
   rw [if_pos rfl]
   exact hcell
  ·rw [if_neg hji]
   have hl':listed.getD j false=true:=by rw [getD_set_ne false (Ne.symm hji)] at hl; exact hl
   obtain ⟨_,_,r3,r4,_⟩:=h.var j oj t' d' hj hcj hmj hl'
   rw [keep _ r3 r4,concL_agree (h:=h2.agree) (closedL_mono (Nat.zero_le _) (hG.tys _ _ hlk').zc)]
   exact h.zero j oj t' d' inf' hj hcj hmj hl' hlk' fun k ok y hk hck hs=>by
    have:=hno k ok y hk hck hs
    cases hh:listed.getD k false with
    | false=>rfl
    | true=>rw [set_mono hh] at this; cases this
 ·have hki:k≠i:=by
   rintro rfl
   rw [ho] at hk; simp only [Option.some.injEq] at hk; subst hk; rw [hc] at hck; cases hck
  have hl':listed.getD k false=true:=by rw [getD_set_ne false (Ne.symm hki)] at hl; exact hl
  obtain ⟨inf',u,vs,cs,p1,p2,p3,p4,p5,p6⟩:=h.val k ok t' d' y j oj hk hck hs hl' hj hcj hmj
  obtain ⟨_,t1,d1,y1,aa,oa,hs',hoa,hca,hma,hea,_,_⟩:=hS.s2 k ok hk hck
  rw [hs] at hs'
  simp only [Option.some.injEq,Prod.mk.injEq] at hs'
  obtain ⟨rfl,rfl,rfl⟩:=hs'
  have hjl:listed.getD j false=true:=by
   have:=h.edges k ok aa hk hl' hea
   obtain ⟨t1,d1,q1,q2,_,q3,_⟩:=hS.a1 aa oa hoa hca
   obtain ⟨p1,p2⟩:=mkD_some hma
   obtain ⟨p3,p4⟩:=mkD_some hmj
   by_cases haj:j=aa
   ·rw [haj]; exact this
   ·rw [p2] at q2
    simp only [Option.some.injEq] at q2
    subst q2
    exact absurd p4 (q3 j oj hj haj)
  obtain ⟨_,_,r3,r4,_⟩:=h.var j oj t' d' hj hcj hmj hjl
  refine ⟨inf',u,vs,cs,p1,p2,p3,p4,p5,?_⟩
  rw [oldR j hjl,keep _ r3 r4,concL_agree (h:=h2.agree) (cells_cl (hG.tys _ _ p1).zc (opv_closed h.st.fits p2) p3 p5)]
  exact p6
 ·have bound:∀ (q:Nat) (oq:Oper),ops[q]?=some oq→clsV oq=1→q≠i→(listed.setIfInBounds i true).getD q false=true→R q<w.heap.size∧listed.getD q false=true:=fun q oq hq hcq hqi hlq=>by
   have hl':listed.getD q false=true:=by rw [getD_set_ne false (Ne.symm hqi)] at hlq; exact hlq
   obtain ⟨t',d',b1,b2,_⟩:=hS.a1 q oq hq hcq
   exact ⟨(h.var q oq t' d' hq hcq (by unfold mkD; rw [b1,b2]) hl').2.2.1,hl'⟩
  by_cases hji:j=i<;>by_cases hki:k=i
  ·rw [hji,hki]
  ·exfalso
   have:=bound k ok hk hck hki hlk'
   rw [if_pos hji,if_neg hki] at he
   omega
  ·exfalso
   have:=bound j oj hj hcj hji hlj
   rw [if_pos hki,if_neg hji] at he
   omega
  ·rw [if_neg hji,if_neg hki] at he
   exact h.inj j k oj ok hj hcj hk hck (bound j oj hj hcj hji hlj).2 (bound k ok hk hck hki hlk').2 he

theorem InvV.store (hG:CfgOk G) (hS:SpecV G ops) {c0 c:Con} {m0 m:HM} {w0 w:World} (hA0:BaseIn G.A w0) {R:Nat→Nat} {listed:Array Bool} {e:Env} {a:Act} (h:InvV G ops N c0 m0 w0 R listed c m e a w)
  {i:Nat} {o:Oper} (ho:ops[i]?=some o) (hc:clsV o=2) (hr:i∈Region.ready .any ops listed) (hok:okS G o e) (next:Act→World→Prop) (Q:Exit→Act→World→Prop)
  (hn:∀ c' w',InvV G ops N c0 m0 w0 R (listed.setIfInBounds i true) c' m e a w'→next a w'):o.wp G.P a w next Q:=by
 have hun:=(mem_ready.1 hr).1
 obtain ⟨t,d,y,inf,v,vs,cs,hs,hlk,hv,hvs,hsz,hput⟩:=hok
 obtain ⟨hdst,t',d',y',a1,oa,hs',hoa,hca,hma,hea,_,huniq⟩:=hS.s2 i o ho hc
 rw [hs] at hs'
 simp only [Option.some.injEq,Prod.mk.injEq] at hs'
 obtain ⟨rfl,rfl,rfl⟩:=hs'
 have hal:listed.getD a1 false=true:=ready_edges ho hr hea
 obtain ⟨r1,r2,r3,r4,r5⟩:=h.var a1 oa t d hoa hca hma hal
 have hz:=(hG.tys _ _ hlk).zc
 have hzero:=h.zero a1 oa t d inf hoa hca hma hal hlk fun k ok y hk hck hsk=>by
  have:k=i:=huniq k ok t d y hk hsk rfl
  subst this
  cases hh:listed.getD k false with
  | false=>rfl
  | true=>exact (unl hun hh).elim
 have hrel1:Rel G.A (c.add m.bs.length (R a1) 0) ⟨m.bs++[some ⟨inf.zero,t,0,false⟩],m.N⟩ w:=Rel.adopt h.st.rel (x:=⟨inf.zero,t,0,false⟩) rfl (closedL_mono (Nat.zero_le _) hz) hzero r4
  (fun b hb=>by have:=(Array.getElem?_eq_some_iff.1 (hA0 _ _ hb)).1; omega) r5
 have hs1:Since c0 m0 w0 (c.add m.bs.length (R a1) 0) ⟨m.bs++[some ⟨inf.zero,t,0,false⟩],m.N⟩ w:=h.since.adopt r2
 have hag1:=Con.add_agree c m.bs.length (R a1) 0
 have hlast:(c.add m.bs.length (R a1) 0).ι m.bs.length=R a1:=by simp [Con.add]
 have yne:∀ ty,y=.tmp ty→d≠ty:=fun ty hy hd=>by
  obtain ⟨t1,d1,q1,q2,_,_,_,q5⟩:=hS.a1 a1 oa hoa hca
  obtain ⟨p1,p2⟩:=mkD_some hma
  rw [p2] at q2
  simp only [Option.some.injEq] at q2
  subst q2
  subst hd
  exact q5 i o t d y ho hs hy
 have hf1:Fits (c.add m.bs.length (R a1) 0) (m.bs++[some (⟨inf.zero,t,0,false⟩:Blk)]).length (putE (some d) (.one (.ptr (some (.loc m.bs.length 0)))) e) a:=by
  refine ⟨fun s u hu=>?_,h.st.fits.defers⟩
  by_cases hsd:d=s
  ·subst hsd
   have:Nat.beq d d=true:=by simp
   simp only [putE,Ev.get,this,Option.some.injEq] at hu
   subst hu
   refine ⟨?_,by simp [TV.closed,Sc.closed,SP.closed]⟩
   rw [r1]
   simp [TV.conc,Sc.conc,SP.conc,hlast]
  ·rw [get_putE_ne (by simpa using hsd)] at hu
   obtain ⟨e1,e2⟩:=h.st.fits.get s u hu
   exact ⟨by rw [TV.conc_agree (h:=hag1) e2]; exact e1,TV.closed_mono (by simp) e2⟩
 have hop:aop G o (putE (some d) (.one (.ptr (some (.loc m.bs.length 0)))) e) ⟨m.bs++[some ⟨inf.zero,t,0,false⟩],m.N⟩ (fun _ m'=>m'=⟨m.bs++[some ⟨cs,t,0,false⟩],m.N⟩):=by
  rw [aop_store (stD_some hs)]
  have e1:opv (putE (some d) (.one (.ptr (some (.loc m.bs.length 0)))) e) (.tmp d)=some (.one (.ptr (some (.loc m.bs.length 0)))):=by
   have:Nat.beq d d=true:=by simp
   simp only [opv,putE,Ev.get,this]
  have e2:opv (putE (some d) (.one (.ptr (some (.loc m.bs.length 0)))) e) y=some v:=by
   rw [← hv]
   exact opv_same fun ty hy=>get_putE_ne (by simpa using yne ty hy)
  rw [e1,e2]
  simp only [astore,hlk,hvs,nth_append_last,hsz,hput,setB_snoc]
 refine aop_sound hG hrel1 hf1 hop next Q fun v' m' c' w' hr' hs' hcl hm'=>?_
 subst hm'
 rw [hdst]
 show next a w'
 have hag:∀ b,b<m.bs.length→c'.ι b=c.ι b∧c'.κ b=c.κ b:=fun b hb=>by
  have h1:=hs'.agree b (by simp only [List.length_append]; omega)
  have h2:=hag1 b hb
  exact ⟨h1.1.trans h2.1,h1.2.trans h2.2⟩
 have hlast':c'.ι m.bs.length=R a1:=by
  have h1:=hs'.agree m.bs.length (by simp)
  exact h1.1.trans hlast
 have hblk:nth (m.bs++[some ⟨cs,t,0,false⟩]) m.bs.length=some ⟨cs,t,0,false⟩:=by rw [nth_append_last]
 obtain ⟨junk,hcell,hj,_⟩:=hr'.blk _ _ hblk
 have hj:=hj rfl
 subst hj
 rw [List.append_nil,hlast'] at hcell
 have keep:∀ r,r<w.heap.size→(∀ b x,nth m.bs b=some x→c.ι b≠r)→R a1≠r→w'.heap[r]?=w.heap[r]?:=fun r g1 g2 g3=>by
  refine hs'.keep r g1 fun b x hx=>?_
  rcases nth_snoc hx with ⟨hb,hx⟩ | ⟨rfl,_⟩
  ·rw [(hag1 b hb).1]; exact g2 b x hx
  ·rw [hlast]; exact g3
 have i0:∀ j oj,ops[j]?=some oj→clsV oj=1→(listed.setIfInBounds i true).getD j false=true→listed.getD j false=true:=fun j oj hj hcj hl=>by
  rcases set_or hl with rfl | hl
  ·rw [ho] at hj; simp only [Option.some.injEq] at hj; subst hj; rw [hc] at hcj; cases hcj
  ·exact hl
 have same:∀ j oj,ops[j]?=some oj→clsV oj=1→listed.getD j false=true→j≠a1→R a1≠R j:=fun j oj hj hcj hl hne he=>hne (h.inj j a1 oj oa hj hcj hoa hca hl hal he.symm)
 have slot:∀ (j:Nat) (oj:Oper) (td:TypeId) ,ops[j]?=some oj→mkD oj=some (td,d)→j=a1:=fun j oj td hj hmj=>by
  obtain ⟨t1,d1,q1,q2,_,q3,_⟩:=hS.a1 a1 oa hoa hca
  obtain ⟨p1,p2⟩:=mkD_some hma
  rw [p2] at q2
  simp only [Option.some.injEq] at q2
  subst q2
  by_cases hne:j=a1
  ·exact hne
  ·exact absurd (mkD_some hmj).2 (q3 j oj hj hne)
 refine hn c' w' ⟨⟨hr'.drop h.st.rel.cl,⟨fun s u hu=>?_,h.st.fits.defers⟩,h.st.size⟩,Since.drop h.since.le (hs1.trans hs'),by simp [h.size],h.no,fun j oj k hj hl he=>?_,
  fun j oj t' d' hj hcj hmj hl=>?_,fun j oj t' d' inf' hj hcj hmj hl hlk' hno=>?_,fun k ok t' d' y' j oj hk hck hsk hl hj hcj hmj=>?_,fun j k oj ok hj hcj hk hck hlj hlk' he=>?_⟩
 ·obtain ⟨e1,e2⟩:=h.st.fits.get s u hu
  exact ⟨by rw [TV.conc_agree (h:=hag) e2]; exact e1,e2⟩
 ·rcases set_or hl with rfl | hl
  ·rw [ho] at hj; simp only [Option.some.injEq] at hj; subst hj
   exact set_mono (ready_edges ho hr he)
  ·exact set_mono (h.edges j oj k hj hl he)
 ·obtain ⟨p1,p2,p3,p4,p5⟩:=h.var j oj t' d' hj hcj hmj (i0 j oj hj hcj hl)
  exact ⟨p1,p2,Nat.lt_of_lt_of_le p3 hs'.same.size,fun b x hx=>by rw [(hag b (nth_lt hx)).1]; exact p4 b x hx,p5⟩
 ·have hl':=i0 j oj hj hcj hl
  have hja:j≠a1:=by
   rintro rfl
   rw [hoa] at hj; simp only [Option.some.injEq] at hj; subst hj
   rw [hma] at hmj; simp only [Option.some.injEq,Prod.mk.injEq] at hmj
   obtain ⟨rfl,rfl⟩:=hmj
   have:=hno i o y ho hc hs
   have hi:i<listed.size:=by rw [h.size]; exact (Array.getElem?_eq_some_iff.1 ho).1
   simp [hi] at this
  obtain ⟨_,_,p3,p4,_⟩:=h.var j oj t' d' hj hcj hmj hl'
  rw [keep _ p3 p4 (same j oj hj hcj hl' hja),concL_agree (h:=hag) (closedL_mono (Nat.zero_le _) (hG.tys _ _ hlk').zc)]
  exact h.zero j oj t' d' inf' hj hcj hmj hl' hlk' fun k ok y hk hck hs=>by
   have:=hno k ok y hk hck hs
   cases hh:listed.getD k false with
   | false=>rfl
   | true=>rw [set_mono hh] at this; cases this
 ·by_cases hki:k=i
  ·subst hki
   rw [ho] at hk; simp only [Option.some.injEq] at hk; subst hk
   rw [hs] at hsk
   simp only [Option.some.injEq,Prod.mk.injEq] at hsk
   obtain ⟨rfl,rfl,rfl⟩:=hsk
   have:=slot j oj t hj hmj
   subst this
   exact ⟨inf,v,vs,cs,hlk,hv,hvs,hsz,hput,hcell⟩
  ·have hl':listed.getD k false=true:=by rw [getD_set_ne false (Ne.symm hki)] at hl; exact hl
   obtain ⟨inf',u,vs',cs',p1,p2,p3,p4,p5,p6⟩:=h.val k ok t' d' y' j oj hk hck hsk hl' hj hcj hmj
   obtain ⟨_,t1,d1,y1,aa,ob,hsk',hob,hcb,hmb,heb,_,hun2⟩:=hS.s2 k ok hk hck
   rw [hsk] at hsk'
   simp only [Option.some.injEq,Prod.mk.injEq] at hsk'
   obtain ⟨rfl,rfl,rfl⟩:=hsk'
   have hja:j≠a1:=by
    rintro rfl
    rw [hoa] at hj; simp only [Option.some.injEq] at hj; subst hj
    rw [hma] at hmj; simp only [Option.some.injEq,Prod.mk.injEq] at hmj
    obtain ⟨rfl,rfl⟩:=hmj
    exact hki (huniq k ok t d y' hk hsk rfl)
   have haj:j=aa:=by
    obtain ⟨t1,d1,q1,q2,_,q3,_⟩:=hS.a1 aa ob hob hcb
    obtain ⟨p1,p2⟩:=mkD_some hmb
    rw [p2] at q2
    simp only [Option.some.injEq] at q2
    subst q2
    by_cases hne:j=aa
    ·exact hne
    ·exact absurd (mkD_some hmj).2 (q3 j oj hj hne)
   have hjl:listed.getD j false=true:=by rw [haj]; exact h.edges k ok aa hk hl' heb
   obtain ⟨_,_,g3,g4,_⟩:=h.var j oj t' d' hj hcj hmj hjl
   refine ⟨inf',u,vs',cs',p1,p2,p3,p4,p5,?_⟩
   rw [keep _ g3 g4 (same j oj hj hcj hjl hja),concL_agree (h:=hag) (cells_cl (hG.tys _ _ p1).zc (opv_closed h.st.fits p2) p3 p5)]
   exact p6
 ·exact h.inj j k oj ok hj hcj hk hck (i0 j oj hj hcj hlj) (i0 k ok hk hck hlk') he

theorem lexV_all {listed':Array Bool} (hsz:listed'.size=ops.size) (h0:Region.ready .any ops listed'=[]):∀ (l:List Nat) (listed:Array Bool),lexV G ops l listed=true →
  (∀ i,listed.getD i false=true→listed'.getD i false=true)→∀ k∈l,listed'.getD k false=true
 | [],_,_,_,k,hk=>by cases hk
 | j::l,listed,hB,hle,k,hk=>by
  simp only [lexV,Bool.and_eq_true] at hB
  obtain ⟨⟨hr,_⟩,hB'⟩:=hB
  have hr:j∈Region.ready .any ops listed:=by simpa using hr
  have hj:listed'.getD j false=true:=by
   obtain ⟨_,o,ho,hall⟩:=mem_ready.1 hr
   cases hh:listed'.getD j false with
   | true=>rfl
   | false=>
    exfalso
    have hlt:j<listed'.size:=by rw [hsz]; exact (Array.getElem?_eq_some_iff.1 ho).1
    have:j∈Region.ready .any ops listed':=mem_ready.2 ⟨by simp [hlt] at hh ⊢; exact hh,o,ho,fun d hd hb=>hle _ (hall d hd hb)⟩
    rw [h0] at this
    cases this
  rcases List.mem_cons.1 hk with rfl | hk
  ·exact hj
  ·refine lexV_all hsz h0 l _ hB' (fun i hi=>?_) k hk
   rcases set_or hi with rfl | hi
   ·exact hj
   ·exact hle i hi

theorem aAnyV_sound (hG:CfgOk G) (hS:SpecV G ops) {c0:Con} {m0:HM} {w0:World} (hA0:BaseIn G.A w0) {K:Env→HM→Prop} {Q:Exit→Act→World→Prop} (hops:∀ (i:Nat) (o:Oper),ops[i]?=some o→dstOk N o=true)
  (hQ:∀ (R:Nat→Nat) (listed:Array Bool) (e:Env) (m:HM) (c:Con) (a:Act) (w:World),Region.ready .any ops listed=[]→K e m→InvV G ops N c0 m0 w0 R listed c m e a w→Q .normal a w) :
  ∀ (f:Nat) (listed:Array Bool) (e:Env) (m:HM) (c:Con) (a:Act) (w:World) (R:Nat→Nat),aAnyV G ops K f listed e m→InvV G ops N c0 m0 w0 R listed c m e a w→wpAny G.P .any ops Q f listed a w
 | 0,listed,e,m,c,a,w,R,h,hI=>⟨h.1,hQ R listed e m c a w h.1 h.2 hI⟩
 | f+1,listed,e,m,c,a,w,R,h,hI=>by
  refine ⟨fun h0=>hQ R listed e m c a w h0 (h.1 h0) hI,fun i hi=>?_⟩
  have hh:=h.2 i hi
  unfold aAtV at hh
  unfold wpOp
  obtain ⟨_,o,ho,_⟩:=mem_ready.1 hi
  simp only [ho] at hh ⊢
  rcases clsV_cases o with hc | hc | hc
  ·simp only [hc] at hh
   have hk:=hh
   unfold aSt at hk
   split at hk
   ·rename_i hw
    rw [if_pos (wantedA_sound hI.st.fits hw)]
    refine .inl (aop_sound hG hI.st.rel hI.st.fits hk _ _ fun v m' c' w' hr hs hv hK=>?_)
    exact aAnyV_sound hG hS hA0 hops hQ f _ _ m' c' _ _ R hK (hI.comp hG hS ho hc hi (hops i o ho) hr hs hv)
   ·rename_i hw
    rw [if_neg (by rw [wantedA_sound hI.st.fits hw]; simp)]
    exact aAnyV_sound hG hS hA0 hops hQ f _ _ m c _ _ R hk (hI.comp hG hS ho hc hi (hops i o ho) (v:=.tup []) hI.st.rel (Since.refl c m w) rfl)
   ·exact hk.elim
  ·simp only [hc] at hh
   have hw:wantedA ops.toList o.guard e=some true:=by rw [clsV_guard (by rw [hc]; decide)]; rfl
   rw [if_pos (wantedA_sound hI.st.fits hw)]
   obtain ⟨t,d,h1,h2,⟨inf,hlk⟩,_⟩:=hS.a1 i o ho hc
   have hm:mkD o=some (t,d):=by unfold mkD; rw [h1,h2]
   have hop:aop G o e m (fun v m'=>v=.one (.ptr (some (.loc m.bs.length 0)))∧m'=⟨m.bs++[some ⟨inf.zero,t,0,false⟩],m.N⟩):=by
    unfold aop
    simp only [h1,hlk,snoc_eq]
    exact ⟨trivial,trivial⟩
   refine .inl (aop_sound hG hI.st.rel hI.st.fits hop _ _ fun v m' c' w' hr hs hv hK=>?_)
   obtain ⟨rfl,rfl⟩:=hK
   exact aAnyV_sound hG hS hA0 hops hQ f _ _ m c' _ _ _ hh (hI.mk1 hG hS ho hc hm hlk hi (hops i o ho) hr hs)
  ·simp only [hc] at hh
   have hw:wantedA ops.toList o.guard e=some true:=by rw [clsV_guard (by rw [hc]; decide)]; rfl
   rw [if_pos (wantedA_sound hI.st.fits hw)]
   exact .inl (hI.store hG hS hA0 ho hc hi hh.1 _ _ fun c' w' hI'=>aAnyV_sound hG hS hA0 hops hQ f _ _ m c' _ _ R hh.2 hI')

def PF (G:Cfg) (ops:Array Oper) (w0:World) (R:Nat→Nat) (c:Con) (m:HM) (e:Env) (a:Act) (w:World):List Nat→Prop
 | i::s::r=>(∃ oi os t d y inf v vs cs,ops[i]?=some oi∧ops[s]?=some os∧clsV oi=1∧clsV os=2∧mkD oi=some (t,d)∧stD os=some (t,d,y)∧lk G.T t=some inf∧opv e y=some v∧v.cells=some vs ∧
   Nat.beq inf.size vs.length=true∧putAt inf.zero 0 vs=some cs∧w.heap[R i]?=some (.cells (cs.map (Sc.conc c)).toArray t)∧a.tmps.getD d undef=.pointer (some ⟨R i,0,none⟩)∧w0.heap.size≤R i ∧
   (∀ b x,nth m.bs b=some x→c.ι b≠R i)∧∀ o',¬ m.N (R i) o')∧PF G ops w0 R c m e a w r
 | _=>True

theorem PF.step (hG:CfgOk G) (hS:SpecV G ops) {w0 w:World} {R:Nat→Nat} {c:Con} {m:HM} {e:Env} {a:Act} (hf:Fits c m.bs.length e a) {i0:Nat} {o0:Oper} {t0:TypeId} {d0:Tmp} (h0:ops[i0]?=some o0) (hc0:clsV o0=1)
  (hm0:mkD o0=some (t0,d0)) {x0:Option Blk} {v0:TV}:∀ (r:List Nat),PF G ops w0 R c m e a w r→(∀ i∈evens r,R i0≠R i)→PF G ops w0 R (c.add m.bs.length (R i0) 0) ⟨m.bs++[x0],m.N⟩ (putE (some d0) v0 e) a w r
 | [],_,_=>trivial
 | [_],_,_=>trivial
 | i::s::r,h,hne=>by
  obtain ⟨⟨oi,os,t,d,y,inf,v,vs,cs,h1,h2,h3,h4,h5,h6,h7,h8,h9,h10,h11,h12,h13,h14,h15,h16⟩,h⟩:=h
  have hag:=Con.add_agree c m.bs.length (R i0) 0
  refine ⟨⟨oi,os,t,d,y,inf,v,vs,cs,h1,h2,h3,h4,h5,h6,h7,?_,h9,h10,h11,?_,h13,h14,fun b x hx=>?_,h16⟩,PF.step hG hS hf h0 hc0 hm0 r h fun j hj=>hne j (by simp [evens,hj])⟩
  ·rw [← h8]
   refine opv_same fun ty hy=>get_putE_ne fun hd=>?_
   obtain ⟨t1,d1,q1,q2,_,_,_,q5⟩:=hS.a1 i0 o0 h0 hc0
   obtain ⟨p1,p2⟩:=mkD_some hm0
   rw [p2] at q2
   simp only [Option.some.injEq] at q2 hd
   subst q2
   subst hd
   exact q5 s os t d y h2 h6 hy
  ·rw [concL_agree (h:=hag) (cells_cl (hG.tys _ _ h7).zc (opv_closed hf h8) h9 h11)]
   exact h12
  ·rcases nth_snoc hx with ⟨hb,hx⟩ | ⟨rfl,_⟩
   ·rw [(hag b hb).1]; exact h15 b x hx
   ·have:(c.add m.bs.length (R i0) 0).ι m.bs.length=R i0:=by simp [Con.add]
    rw [this]
    exact hne i (by simp [evens])

theorem pairs_final (hG:CfgOk G) (hS:SpecV G ops) {c0:Con} {m0:HM} {w0:World} (hA0:BaseIn G.A w0) {KQ:Env→HM→Prop} {R:Nat→Nat}:∀ (pr:List Nat) (e:Env) (m:HM) (c:Con) (a:Act) (w:World),pairsV ops pr=true →
  aopsL G ops.toList (pickL ops.toList pr) e m KQ→St G N c m e a w→Since c0 m0 w0 c m w→PF G ops w0 R c m e a w pr→(∀ i j,i∈evens pr→j∈evens pr→R i=R j→i=j) →
  ∃ e' m' c',KQ e' m'∧St G N c' m' e' a w∧Since c0 m0 w0 c' m' w
 | [],e,m,c,a,w,_,h,hst,hs,_,_=>⟨e,m,c,by simpa [pickL,aopsL] using h,hst,hs⟩
 | [_],_,_,_,_,_,hp,_,_,_,_,_=>by simp [pairsV] at hp
 | i::s::r,e,m,c,a,w,hp,h,hst,hs,hpf,hinj=>by
  obtain ⟨⟨oi,os,t,d,y,inf,v,vs,cs,h1,h2,h3,h4,h5,h6,h7,h8,h9,h10,h11,h12,h13,h14,h15,h16⟩,hpf⟩:=hpf
  simp only [pairsV,Bool.and_eq_true] at hp
  obtain ⟨⟨_,hnd⟩,hp⟩:=hp
  have k1:ops.toList[i]?=some oi:=by simpa using h1
  have k2:ops.toList[s]?=some os:=by simpa using h2
  obtain ⟨g1,g2⟩:=mkD_some h5
  have g3:=stD_some h6
  have g4:=clsV_guard (o:=oi) (by rw [h3]; decide)
  have g5:=clsV_guard (o:=os) (by rw [h4]; decide)
  have g6:os.dst=none:=(hS.s2 s os h2 h4).1
  have hz:=(hG.tys _ _ h7).zc
  have hcl:=cells_cl hz (opv_closed hst.fits h8) h9 h11
  have yne:∀ ty,y=.tmp ty→(some d:Option Tmp)≠some ty:=fun ty hy hd=>by
   obtain ⟨t1,d1,q1,q2,_,_,_,q5⟩:=hS.a1 i oi h1 h3
   rw [g2] at q2
   simp only [Option.some.injEq] at q2 hd
   subst q2
   subst hd
   exact q5 s os t d y h2 h6 hy
  have e2:opv (putE (some d) (.one (.ptr (some (.loc m.bs.length 0)))) e) y=some v:=by
   rw [← h8]
   exact opv_same fun ty hy=>get_putE_ne (yne ty hy)
  have e1:opv (putE (some d) (.one (.ptr (some (.loc m.bs.length 0)))) e) (.tmp d)=some (.one (.ptr (some (.loc m.bs.length 0)))):=by
   have:Nat.beq d d=true:=by simp
   simp only [opv,putE,Ev.get,this]
  have h':aopsL G ops.toList (pickL ops.toList r) (putE (some d) (.one (.ptr (some (.loc m.bs.length 0)))) e) ⟨m.bs++[some ⟨cs,t,0,false⟩],m.N⟩ KQ:=by
   simp only [pickL,k1,k2,aopsL,g4,g5,wantedA,g2,g6,aop_store g3] at h
   unfold aop at h
   simp only [g1,h7,snoc_eq,e1,e2,astore,h9,nth_append_last,h10,h11,setB_snoc] at h
   exact h
  have hrel:Rel G.A (c.add m.bs.length (R i) 0) ⟨m.bs++[some ⟨cs,t,0,false⟩],m.N⟩ w:=Rel.adopt hst.rel (x:=⟨cs,t,0,false⟩) rfl hcl h12 h15
   (fun b hb=>by have:=(Array.getElem?_eq_some_iff.1 (hA0 _ _ hb)).1; omega) h16
  have hag:=Con.add_agree c m.bs.length (R i) 0
  have hlast:(c.add m.bs.length (R i) 0).ι m.bs.length=R i:=by simp [Con.add]
  have hfit:Fits (c.add m.bs.length (R i) 0) (m.bs++[some (⟨cs,t,0,false⟩:Blk)]).length (putE (some d) (.one (.ptr (some (.loc m.bs.length 0)))) e) a:=by
   refine ⟨fun q u hu=>?_,hst.fits.defers⟩
   by_cases hsd:d=q
   ·subst hsd
    have:Nat.beq d d=true:=by simp
    simp only [putE,Ev.get,this,Option.some.injEq] at hu
    subst hu
    refine ⟨?_,by simp [TV.closed,Sc.closed,SP.closed]⟩
    rw [h13]
    simp [TV.conc,Sc.conc,SP.conc,hlast]
   ·rw [get_putE_ne (by simpa using hsd)] at hu
    obtain ⟨e1,e2⟩:=hst.fits.get q u hu
    exact ⟨by rw [TV.conc_agree (h:=hag) e2]; exact e1,TV.closed_mono (by simp) e2⟩
  refine pairs_final hG hS hA0 r _ _ _ a w hp h' ⟨hrel,hfit,hst.size⟩ (hs.adopt h14) (hpf.step hG hS hst.fits h1 h3 h5 r fun j hj he=>?_) fun j k hj hk=>hinj j k (by simp [evens,hj]) (by simp [evens,hk])
  have:=hinj i j (by simp [evens]) (by simp [evens,hj]) he
  subst this
  simp [hj] at hnd

theorem comps_cls:∀ (l:List Nat),∀ k∈comps ops l,∃ o,ops[k]?=some o∧clsV o=0
 | [],k,hk=>by simp [comps] at hk
 | j::l,k,hk=>by
  unfold comps at hk
  split at hk
  ·rename_i o ho
   split at hk
   ·rename_i hc
    rcases List.mem_cons.1 hk with rfl | hk
    ·exact ⟨o,ho,hc⟩
    ·exact comps_cls l k hk
   ·cases hk
  ·cases hk

theorem comps_split:∀ (l:List Nat),comps ops l++varsV ops l=l
 | []=>rfl
 | j::l=>by
  unfold comps varsV
  split
  ·split
   ·simp [comps_split l]
   ·rfl
  ·rfl

theorem pickL_append (l:List Oper):∀ (a b:List Nat),pickL l (a++b)=pickL l a++pickL l b
 | [],b=>rfl
 | i::a,b=>by
  simp only [List.cons_append,pickL]
  split
  ·simp [pickL_append l a b]
  ·exact pickL_append l a b

theorem aopsL_append {all:List Oper} {K:Env→HM→Prop}:∀ (l r:List Oper) (e:Env) (m:HM),aopsL G all (l++r) e m K→aopsL G all l e m fun e m=>aopsL G all r e m K
 | [],r,e,m,h=>h
 | o::l,r,e,m,h=>by
  simp only [List.cons_append,aopsL] at h ⊢
  split at h
  ·exact aop_mono (fun v m' hh=>aopsL_append l r _ _ hh) h
  ·exact aopsL_append l r _ _ h
  ·exact h

theorem evens_cls:∀ (pr:List Nat),pairsV ops pr=true→(∀ k∈evens pr,∃ o,ops[k]?=some o∧clsV o=1)∧(∀ k∈odds pr,∃ o,ops[k]?=some o∧clsV o=2)
 | [],_=>⟨fun k hk=>by simp [evens] at hk,fun k hk=>by simp [odds] at hk⟩
 | [_],h=>by simp [pairsV] at h
 | a::s::r,h=>by
  simp only [pairsV,Bool.and_eq_true] at h
  obtain ⟨⟨h1,_⟩,h3⟩:=h
  obtain ⟨i1,i2⟩:=evens_cls r h3
  split at h1
  ·rename_i oa os hoa hos
   simp only [Bool.and_eq_true] at h1
   refine ⟨fun k hk=>?_,fun k hk=>?_⟩
   ·rcases List.mem_cons.1 hk with rfl | hk
    ·exact ⟨oa,hoa,Nat.eq_of_beq_eq_true h1.1.1⟩
    ·exact i1 k hk
   ·rcases List.mem_cons.1 hk with rfl | hk
    ·exact ⟨os,hos,Nat.eq_of_beq_eq_true h1.1.2⟩
    ·exact i2 k hk
  ·cases h1

theorem pairs_okS (hS:SpecV G ops) {KQ:Env→HM→Prop}:∀ (pr:List Nat) (e e0:Env) (m:HM),pairsV ops pr=true→aopsL G ops.toList (pickL ops.toList pr) e m KQ →
  (∀ (k:Nat) (o:Oper) (t:TypeId) (d:Tmp) (y:Operand) ,ops[k]?=some o→stD o=some (t,d,y)→opv e y=opv e0 y)→∀ k o,k∈odds pr→ops[k]?=some o→clsV o=2→okS G o e0
 | [],_,_,_,_,_,_,k,o,hk,_,_=>by simp [odds] at hk
 | [_],_,_,_,h,_,_,_,_,_,_,_=>by simp [pairsV] at h
 | i::s::r,e,e0,m,hp,h,hsame,k,o,hk,ho,hc=>by
  simp only [pairsV,Bool.and_eq_true] at hp
  obtain ⟨⟨hp1,_⟩,hp2⟩:=hp
  split at hp1
  ·rename_i oi os h1 h2
   simp only [Bool.and_eq_true] at hp1
   obtain ⟨⟨c1,c2⟩,hmm⟩:=hp1
   have c1:=Nat.eq_of_beq_eq_true c1
   have c2:=Nat.eq_of_beq_eq_true c2
   cases hmk:mkD oi with
   | none=>simp only [hmk] at hmm; cases hmm
   | some td=>
    obtain ⟨t,d⟩:=td
    cases hst:stD os with
    | none=>simp only [hmk,hst] at hmm; cases hmm
    | some tdy=>
     obtain ⟨t',d',y⟩:=tdy
     simp only [hmk,hst,Bool.and_eq_true] at hmm
     have e1:=Nat.eq_of_beq_eq_true hmm.1
     have e2:=Nat.eq_of_beq_eq_true hmm.2
     subst e1 e2
     obtain ⟨g1,g2⟩:=mkD_some hmk
     have g3:=stD_some hst
     have g4:=clsV_guard (o:=oi) (by rw [c1]; decide)
     have g5:=clsV_guard (o:=os) (by rw [c2]; decide)
     have g6:os.dst=none:=(hS.s2 s os h2 c2).1
     have k1:ops.toList[i]?=some oi:=by simpa using h1
     have k2:ops.toList[s]?=some os:=by simpa using h2
     obtain ⟨_,_,q1,q2,⟨inf,hlk⟩,_,_,q5⟩:=hS.a1 i oi h1 c1
     rw [g1] at q1
     rw [g2] at q2
     simp only [Op.alloc.injEq,Option.some.injEq] at q1 q2
     subst q1 q2
     simp only [pickL,k1,k2,aopsL,g4,g5,wantedA,g2,g6,aop_store g3] at h
     unfold aop at h
     have ey:∀ (k:Nat) (o:Oper) (t':TypeId) (d':Tmp) (y:Operand) ,ops[k]?=some o→stD o=some (t',d',y)→opv (putE (some d) (.one (.ptr (some (.loc m.bs.length 0)))) e) y=opv e y:=fun k o t' d' y hk hs=>
      opv_same fun ty hy=>get_putE_ne fun hd=>by
       simp only [Option.some.injEq] at hd
       subst hd
       exact q5 k o t' d' y hk hs hy
     have e1:opv (putE (some d) (.one (.ptr (some (.loc m.bs.length 0)))) e) (.tmp d)=some (.one (.ptr (some (.loc m.bs.length 0)))):=by
      have:Nat.beq d d=true:=by simp
      simp only [opv,putE,Ev.get,this]
     simp only [g1,hlk,snoc_eq,e1,ey s os t d y h2 hst] at h
     cases hv:opv e y with
     | none=>simp only [hv] at h
     | some v=>
      simp only [hv,astore,hlk] at h
      cases hvs:v.cells with
      | none=>simp only [hvs] at h
      | some vs=>
       simp only [hvs,nth_append_last] at h
       cases hb:Nat.beq inf.size vs.length with
       | false=>simp only [hb] at h
       | true=>
        simp only [hb] at h
        cases hput:putAt inf.zero 0 vs with
        | none=>simp only [hput] at h
        | some cs=>
         simp only [hput,setB_snoc] at h
         rcases List.mem_cons.1 hk with rfl | hk
         ·rw [h2] at ho
          simp only [Option.some.injEq] at ho
          subst ho
          exact ⟨t,d,y,inf,v,vs,cs,hst,hlk,by rw [← hsame k _ t d y h2 hst]; exact hv,hvs,hb,hput⟩
         ·exact pairs_okS hS r _ e0 _ hp2 h (fun k o t' d' y hk hs=>(ey k o t' d' y hk hs).trans (hsame k o t' d' y hk hs)) k o hk ho hc
  ·cases hp1

theorem PF_of (hG:CfgOk G) (hS:SpecV G ops) {c0 c:Con} {m0 m:HM} {w0 w:World} {R:Nat→Nat} {listed:Array Bool} {e:Env} {a:Act} (h:InvV G ops N c0 m0 w0 R listed c m e a w):∀ (pr:List Nat),pairsV ops pr=true→(∀ k∈evens pr,listed.getD k false=true)→(∀ k∈odds pr,listed.getD k false=true) →
  PF G ops w0 R c m e a w pr
 | [],_,_,_=>trivial
 | [_],hp,_,_=>by simp [pairsV] at hp
 | i::s::r,hp,h1,h2=>by
  simp only [pairsV,Bool.and_eq_true] at hp
  obtain ⟨⟨hp1,_⟩,hp2⟩:=hp
  refine ⟨?_,PF_of hG hS h r hp2 (fun k hk=>h1 k (by simp [evens,hk])) (fun k hk=>h2 k (by simp [odds,hk]))⟩
  split at hp1
  ·rename_i oi os g1 g2
   simp only [Bool.and_eq_true] at hp1
   obtain ⟨⟨c1,c2⟩,hmm⟩:=hp1
   have c1:=Nat.eq_of_beq_eq_true c1
   have c2:=Nat.eq_of_beq_eq_true c2
   cases hmk:mkD oi with
   | none=>simp only [hmk] at hmm; cases hmm
   | some td=>
    obtain ⟨t,d⟩:=td
    cases hst:stD os with
    | none=>simp only [hmk,hst] at hmm; cases hmm
    | some tdy=>
     obtain ⟨t',d',y⟩:=tdy
     simp only [hmk,hst,Bool.and_eq_true] at hmm
     have e1:=Nat.eq_of_beq_eq_true hmm.1
     have e2:=Nat.eq_of_beq_eq_true hmm.2
     subst e1 e2
     have l1:=h1 i (by simp [evens])
     have l2:=h2 s (by simp [odds])
     obtain ⟨inf,v,vs,cs,p1,p2,p3,p4,p5,p6⟩:=h.val s os t d y i oi g2 c2 hst l2 g1 c1 hmk
     obtain ⟨r1,r2,r3,r4,r5⟩:=h.var i oi t d g1 c1 hmk l1
     exact ⟨oi,os,t,d,y,inf,v,vs,cs,g1,g2,c1,c2,hmk,hst,p1,p2,p3,p4,p5,p6,r1,r2,r4,r5⟩
  ·cases hp1

theorem aopsL_cons {o:Oper} {r:List Oper} {e:Env} {m:HM} {K:Env→HM→Prop}:aopsL G ops.toList (o::r) e m K=aSt G ops o e m fun v m'=>aopsL G ops.toList r (putE o.dst v e) m' K:=by
 simp only [aopsL,aSt]

theorem aopsL_env {K:Env→HM→Prop} (hK:∀ e e' m,EnvEq e e'→K e m→K e' m):∀ (l:List Oper) (e e':Env) (m:HM),EnvEq e e'→aopsL G ops.toList l e m K→aopsL G ops.toList l e' m K
 | [],_,_,_,he,h=>hK _ _ _ he h
 | o::l,e,e',m,he,h=>by
  rw [aopsL_cons] at h ⊢
  exact aSt_same (fun t _=>he t) (aSt_mono (fun v m' hx=>aopsL_env hK l _ _ _ (he.put o.dst v) hx) h)

def RD (D:Tmp→Prop) (e e1:Env):Prop:=∀ t,¬ D t→Ev.get e1 t=Ev.get e t

theorem RD.put {D:Tmp→Prop} {e e1:Env} (h:RD D e e1) (d:Option Tmp) (v:TV):RD D (putE d v e) (putE d v e1):=by
 intro t ht
 by_cases hd:d=some t
 ·subst hd
  simp [putE,Ev.get]
 ·rw [get_putE_ne hd,get_putE_ne hd]; exact h t ht

theorem aopsL_rd {D:Tmp→Prop} {K K1:Env→HM→Prop} (hK:∀ e e1 m,RD D e e1→K e m→K1 e1 m):∀ (l:List Nat) (e e1:Env) (m:HM),(∀ k o,k∈l→ops[k]?=some o→∀ t∈o.looksAt ops,¬ D t)→RD D e e1 →
  aopsL G ops.toList (pickL ops.toList l) e m K→aopsL G ops.toList (pickL ops.toList l) e1 m K1
 | [],_,_,_,_,hr,h=>hK _ _ _ hr h
 | k::l,e,e1,m,hl,hr,h=>by
  simp only [pickL] at h ⊢
  cases ho:ops.toList[k]? with
  | none=>
   simp only [ho] at h ⊢
   exact aopsL_rd hK l e e1 m (fun k' o' hk'=>hl k' o' (by simp [hk'])) hr h
  | some o=>
   simp only [ho] at h ⊢
   rw [aopsL_cons] at h ⊢
   exact aSt_same (fun t ht=>(hr t (hl k o (by simp) (by simpa using ho) t ht)).symm) (aSt_mono (fun v m' hx=>aopsL_rd hK l _ _ _ (fun k' o' hk'=>hl k' o' (by simp [hk'])) (hr.put o.dst v) hx) h)

theorem pairs_rd (hS:SpecV G ops) {KQ:Env→HM→Prop} (hK:∀ e e' m,EnvEq e e'→KQ e m→KQ e' m):∀ (pr:List Nat) (D:Tmp→Prop) (e e1:Env) (m:HM),pairsV ops pr=true →
  (∀ t,D t→∃ i o,i∈evens pr∧ops[i]?=some o∧clsV o=1∧o.dst=some t)→RD D e e1→aopsL G ops.toList (pickL ops.toList pr) e m KQ→aopsL G ops.toList (pickL ops.toList pr) e1 m KQ
 | [],D,e,e1,m,_,hD,hr,h=>hK _ _ _ (fun t=>(hr t (fun hd=>by obtain ⟨i,o,hi,_⟩:=hD t hd; simp [evens] at hi)).symm) h
 | [_],_,_,_,_,hp,_,_,_=>by simp [pairsV] at hp
 | i::s::r,D,e,e1,m,hp,hD,hr,h=>by
  simp only [pairsV,Bool.and_eq_true] at hp
  obtain ⟨⟨hp1,_⟩,hp2⟩:=hp
  split at hp1
  ·rename_i oi os g1 g2
   simp only [Bool.and_eq_true] at hp1
   obtain ⟨⟨c1,c2⟩,hmm⟩:=hp1
   have c1:=Nat.eq_of_beq_eq_true c1
   have c2:=Nat.eq_of_beq_eq_true c2
   have k1:ops.toList[i]?=some oi:=by simpa using g1
   have k2:ops.toList[s]?=some os:=by simpa using g2
   obtain ⟨t,d,q1,q2,_,q3,_,q5⟩:=hS.a1 i oi g1 c1
   obtain ⟨hdst,t',d',y,aa,oa,hs',_⟩:=hS.s2 s os g2 c2
   have hmk:mkD oi=some (t,d):=by unfold mkD; rw [q1,q2]
   simp only [hmk,hs',Bool.and_eq_true] at hmm
   have e2:=Nat.eq_of_beq_eq_true hmm.2
   subst e2
   have gi:=clsV_guard (o:=oi) (by rw [c1]; decide)
   have gs:=clsV_guard (o:=os) (by rw [c2]; decide)
   have hsop:=stD_some hs'
   simp only [pickL,k1,k2] at h ⊢
   rw [aopsL_cons] at h ⊢
   have l1:oi.looksAt ops=[]:=by unfold Oper.looksAt; rw [gi,q1]; rfl
   refine aSt_same (fun u hu=>by rw [l1] at hu; cases hu) (aSt_mono (fun v m' hx=>?_) h)
   rw [aopsL_cons] at hx ⊢
   rw [q2] at hx ⊢
   have hr':RD (fun u=>D u∧u≠d) (putE (some d) v e) (putE (some d) v e1):=by
    intro u hu
    by_cases hud:d=u
    ·subst hud; simp [putE,Ev.get]
    ·have hne:(some d:Option Tmp)≠some u:=by simpa using hud
     rw [get_putE_ne hne,get_putE_ne hne]
     exact hr u (fun hd=>hu ⟨hd,Ne.symm hud⟩)
   refine aSt_same (fun u hu=>(hr' u ?_).symm) (aSt_mono (fun v2 m2 hy=>pairs_rd hS hK r (fun u=>D u∧u≠d) _ _ _ hp2 (fun u hu=>?_) (hr'.put os.dst v2) hy) hx)
   ·rintro ⟨hd,hne⟩
    unfold Oper.looksAt at hu
    rw [gs,hsop] at hu
    simp only [Op.operands,List.append_nil] at hu
    obtain ⟨x,hx1,hx2⟩:=List.mem_filterMap.1 hu
    have hx1:x=.tmp d∨x=y:=by simpa using hx1
    rcases hx1 with rfl | rfl
    ·simp only [Option.some.injEq] at hx2; exact hne hx2.symm
    ·obtain ⟨j,oj,_,hj,hcj,hdj⟩:=hD u hd
     obtain ⟨_,dj,_,r2,_,_,_,r5⟩:=hS.a1 j oj hj hcj
     rw [hdj] at r2
     simp only [Option.some.injEq] at r2
     subst r2
     cases hxx:x with
     | tmp tt=>
      rw [hxx] at hx2
      simp only [Option.some.injEq] at hx2
      subst hx2
      exact r5 s os t' d x g2 hs' hxx
     | _=>rw [hxx] at hx2; cases hx2
   ·obtain ⟨j,oj,hj,hoj,hcj,hdj⟩:=hD u hu.1
    refine ⟨j,oj,?_,hoj,hcj,hdj⟩
    simp only [evens,List.mem_cons] at hj
    rcases hj with rfl | hj
    ·rw [g1] at hoj; simp only [Option.some.injEq] at hoj; subst hoj
     rw [q2] at hdj; simp only [Option.some.injEq] at hdj
     exact absurd hdj.symm hu.2
    ·exact hj
  ·cases hp1

def rmv (D:Tmp→Bool):Env→Env
 | []=>[]
 | (t,v)::r=>if D t then rmv D r else (t,v)::rmv D r

theorem get_rmv (D:Tmp→Bool):∀ (e:Env) (t:Tmp),Ev.get (rmv D e) t=if D t then none else Ev.get e t
 | [],t=>by simp [rmv,Ev.get]
 | (s,v)::r,t=>by
  unfold rmv
  by_cases hs:D s=true
  ·rw [if_pos hs,get_rmv D r t]
   by_cases ht:D t=true
   ·rw [if_pos ht,if_pos ht]
   ·rw [if_neg ht,if_neg ht]
    simp only [Ev.get]
    have:Nat.beq s t=false:=by
     cases hb:Nat.beq s t with
     | false=>rfl
     | true=>have:=Nat.eq_of_beq_eq_true hb; subst this; exact absurd hs ht
    rw [this]
  ·rw [if_neg hs]
   simp only [Ev.get]
   cases hb:Nat.beq s t with
   | true=>
    have:=Nat.eq_of_beq_eq_true hb
    subst this
    rw [if_neg hs]
   | false=>simp only [get_rmv D r t]

theorem len_eo:∀ (pr:List Nat),pairsV ops pr=true→(evens pr++odds pr).length=pr.length
 | [],_=>rfl
 | [_],h=>by simp [pairsV] at h
 | i::s::r,h=>by
  simp only [pairsV,Bool.and_eq_true] at h
  have:=len_eo r h.2
  simp only [evens,odds,List.length_append,List.length_cons] at this ⊢
  omega

theorem vars_sound (hG:CfgOk G) {l:List Nat} (hk:okVars G ops l=true) (hlen:l.length=ops.size) (hops:∀ (i:Nat) (o:Oper),ops[i]?=some o→dstOk N o=true) {KQ:Env→HM→Prop} {Q:Exit→Act→World→Prop} {c:Con} {m:HM} {e:Env} {a:Act} {w:World}
  (h:aopsL G ops.toList (pickL ops.toList l) e m KQ) (hst:St G N c m e a w) (hKQ:∀ e e' m,EnvEq e e'→KQ e m→KQ e' m)
  (hQ:∀ e' m' c' a' w',KQ e' m'→St G N c' m' e' a' w'→Since c m w c' m' w'→Q .normal a' w'):wpAny G.P .any ops Q ops.size (Array.replicate ops.size false) a w:=by
 simp only [okVars,Bool.and_eq_true] at hk
 obtain ⟨⟨⟨hk1,hp⟩,hcov⟩,hlex⟩:=hk
 simp only [List.any_eq_true,Bool.and_eq_true] at hlex
 obtain ⟨nq,_,htro,hlex⟩:=hlex
 generalize (comps ops l).length-nq=nq at *
 have hS:=okV_spec hk1
 let D:Tmp→Bool:=fun t=>(List.range ops.size).any fun k=>match ops[k]? with
  | some o=>Nat.beq (clsV o) 1&&(o.dst==some t)
  | none=>false
 have hD:∀ t,D t=true→∃ i o,i∈evens (varsV ops l)∧ops[i]?=some o∧clsV o=1∧o.dst=some t:=fun t ht=>by
  simp only [D,List.any_eq_true,List.mem_range] at ht
  obtain ⟨k,_,ht⟩:=ht
  split at ht
  ·rename_i o ho
   simp only [Bool.and_eq_true,beq_iff_eq] at ht
   have hc:=Nat.eq_of_beq_eq_true ht.1
   have:=allV_spec hcov ho
   simp only [hc] at this
   exact ⟨k,o,by simpa using this,ho,hc,ht.2⟩
  ·cases ht
 have hD2:∀ (i:Nat) (o:Oper) (t:TypeId) (d:Tmp),ops[i]?=some o→clsV o=1→mkD o=some (t,d)→D d=true:=fun i o t d ho hc hm=>by
  simp only [D,List.any_eq_true,List.mem_range]
  refine ⟨i,(Array.getElem?_eq_some_iff.1 ho).1,?_⟩
  simp [ho,hc,(mkD_some hm).2]
 have hrd:RD (fun t=>D t=true) e (rmv D e):=fun t ht=>by rw [get_rmv,if_neg ht]
 rw [← comps_split (ops:=ops) l,pickL_append] at h
 have h:=aopsL_append _ _ _ _ h
 have h1:aopsL G ops.toList (pickL ops.toList (comps ops l)) (rmv D e) m fun e m=>aopsL G ops.toList (pickL ops.toList (varsV ops l)) e m KQ:=by
  refine aopsL_rd (D:=fun t=>D t=true) (fun e e1 m hr hh=>pairs_rd hS hKQ _ _ e e1 m hp hD hr hh) _ e _ m (fun k o hk ho t ht hd=>?_) hrd h
  obtain ⟨o',ho',hc'⟩:=comps_cls (ops:=ops) l k hk
  rw [ho] at ho'
  simp only [Option.some.injEq] at ho'
  subst ho'
  obtain ⟨i,oi,_,hi,hci,hdi⟩:=hD t hd
  obtain ⟨_,d,_,q2,_,_,q4,_⟩:=hS.a1 i oi hi hci
  rw [hdi] at q2
  simp only [Option.some.injEq] at q2
  subst q2
  exact q4 k o ho hc' ht
 have hst1:St G N c m (rmv D e) a w:=⟨hst.rel,⟨fun t v hv=>by
  rw [get_rmv] at hv
  split at hv
  ·cases hv
  ·exact hst.fits.get t v hv,hst.fits.defers⟩,hst.size⟩
 obtain ⟨ce,co⟩:=evens_cls (ops:=ops) _ hp
 have hcc:=comps_cls (ops:=ops) l
 have hsp:(comps ops l).take nq++(comps ops l).drop nq=comps ops l:=List.take_append_drop _ _
 have hodd:∀ k o,k∈evens (varsV ops l)++odds (varsV ops l)→ops[k]?=some o→clsV o=2→k∈odds (varsV ops l):=fun k o hk ho hc=>by
  rcases List.mem_append.1 hk with hk | hk
  ·obtain ⟨o',ho',hc'⟩:=ce k hk
   rw [ho] at ho'; simp only [Option.some.injEq] at ho'; subst ho'
   rw [hc] at hc'; cases hc'
  ·exact hk
 have htro2:trailOk ops ((comps ops l).drop nq) (evens (varsV ops l)++odds (varsV ops l))=true:=by
  unfold trailOk at htro ⊢
  rw [List.all_eq_true] at htro ⊢
  intro k hk
  have h1:=htro k hk
  rw [List.all_eq_true] at h1 ⊢
  intro s hs
  rcases List.mem_append.1 hs with hs | hs
  ·obtain ⟨o',ho',hc'⟩:=ce s hs
   obtain ⟨ok,hok,_⟩:=hcc k (List.mem_of_mem_drop hk)
   have:stD o'=none:=by
    cases hst:stD o' with
    | none=>rfl
    | some tdy=>
     obtain ⟨t,d,y⟩:=tdy
     obtain ⟨t',d',g1,_⟩:=hS.a1 s o' ho' hc'
     rw [stD_some hst] at g1
     cases g1
   simp only [hok,ho',this]
  ·exact h1 s hs
 rw [← hsp,pickL_append] at h1
 have h1:=aopsL_append _ _ _ _ h1
 have h2:=aAnyV_lex2 (G:=G) (ops:=ops) hG hS (K:=fun e m=>aopsL G ops.toList (pickL ops.toList (varsV ops l)) e m KQ) (fun e1 e2 m he hh=>aopsL_env hKQ _ _ _ _ he hh)
  (evens (varsV ops l)++odds (varsV ops l)) ((comps ops l).drop nq) (fun k hk=>by
   rcases List.mem_append.1 hk with hk | hk
   ·obtain ⟨o,ho,hc⟩:=ce k hk; exact ⟨o,ho,by rw [hc]; decide⟩
   ·obtain ⟨o,ho,hc⟩:=co k hk; exact ⟨o,ho,by rw [hc]; decide⟩)
  (fun k hk=>hcc k (List.mem_of_mem_drop hk)) htro2
  ((comps ops l).take nq) (Array.replicate ops.size false) (rmv D e) m (fun k hk=>hcc k (List.mem_of_mem_take hk)) hlex
  (aopsL_mono' (fun e1 m1 hh=>aopsL_mono' (fun e2 m2 hh2=>⟨hh2,fun k o hk ho hc=>pairs_okS hS _ e2 e2 m2 hp hh2 (fun _ _ _ _ _ _ _=>rfl) k o (hodd k o hk ho hc) ho hc⟩) hh) h1)
 have hlen2:((comps ops l).take nq++((evens (varsV ops l)++odds (varsV ops l))++(comps ops l).drop nq)).length=ops.size:=by
  have h3:=len_eo (ops:=ops) _ hp
  have h4:=congrArg List.length (comps_split (ops:=ops) l)
  have h5:=congrArg List.length hsp
  rw [List.length_append] at h4 h5
  rw [List.length_append,List.length_append]
  omega
 rw [hlen2] at h2
 have no:∀ i,(Array.replicate ops.size false).getD i false=true→False:=fun i hi=>by
  rcases Nat.lt_or_ge i ops.size with h' | h'
  ·simp [h'] at hi
  ·simp [h'] at hi
 refine aAnyV_sound hG hS (c0:=c) (m0:=m) (w0:=w) hst.rel.baseA hops (fun R listed e1 m1 c1 a1 w1 h0 hK hI=>?_) ops.size (Array.replicate ops.size false) (rmv D e) m c a w (fun _=>0) h2
  ⟨hst1,Since.refl c m w,by simp,fun i o t d ho hc hm=>by rw [get_rmv,if_pos (hD2 i o t d ho hc hm)],fun i _ _ _ hl=>(no i hl).elim,fun i _ _ _ _ _ _ hl=>(no i hl).elim,fun i _ _ _ _ _ _ _ hl=>(no i hl).elim,
   fun k _ _ _ _ _ _ _ _ _ hl=>(no k hl).elim,fun i _ _ _ _ _ _ _ hl=>(no i hl).elim⟩
 have hall:=lexV_all (G:=G) hI.size h0 _ _ hlex (fun i hi=>(no i hi).elim)
 have l1:∀ k∈evens (varsV ops l),listed.getD k false=true:=fun k hk=>hall k (by simp [hk])
 have l2:∀ k∈odds (varsV ops l),listed.getD k false=true:=fun k hk=>hall k (by simp [hk])
 obtain ⟨e',m',c',g1,g2,g3⟩:=pairs_final hG hS hst.rel.baseA (varsV ops l) e1 m1 c1 a1 w1 hp hK hI.st hI.since (PF_of hG hS hI _ hp l1 l2) fun i j hi hj he=>by
  obtain ⟨oi,hoi,hci⟩:=ce i hi
  obtain ⟨oj,hoj,hcj⟩:=ce j hj
  exact hI.inj i j oi oj hoi hci hoj hcj (l1 i hi) (l1 j hj) he
 exact hQ e' m' c' a1 w1 g1 g2 g3

end
end Go.Hv

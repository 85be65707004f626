import Derived.Test.YthmdbgdagnhheaaGreatDoorFeA
import Derived.Test.YthmdbgdagnhheaaGreatDoorHvB
namespace Go.Hv
open Go.Ev

theorem gH (A:Base) (ord:Nat→Option (List Nat)):CfgOk (HHo A ord):=hhOk (fun W0=>p_mul64 W0) A ord

theorem Base.le_refl (B:Base):Base.le B B:=fun _ _ h=>h
theorem Base.le_trans {A B C:Base} (h:Base.le A B) (k:Base.le B C):Base.le A C:=fun r o hr=>k r o (h r o hr)
theorem Base.le_l (A B:Base):Base.le A (A.or B):=fun _ _ h=>.inl h
def Sl (B:Base) (es:Nat) (s:TV) (L:List (List Sc)):Prop:=
 ∃ p cap,s=.one (.slice p L.length cap)∧(L.length≤cap∧L.length≤140737488355128)∧(∀ x∈L,x.length=es∧closedL 0 x=true) ∧
  match p with
  | none=>L=[]∧cap=0
  | some (.ext a)=>a.spot=none∧∀ i x j s,L[i]?=some x→x[j]?=some s→bcell B (a.add (i*es+j)) (s.conc Con0)
  | some (.loc _ _)=>False

theorem Sl.mono {B B':Base} (h:Base.le B B') {es:Nat} {s:TV} {L:List (List Sc)} (hs:Sl B es s L):Sl B' es s L:=by
 obtain ⟨p,cap,h1,h2,h3,h4⟩:=hs
 refine ⟨p,cap,h1,h2,h3,?_⟩
 match p,h4 with
 | none,h4=>exact h4
 | some (.ext a),h4=>exact ⟨h4.1,fun i x j s hi hj=>bcell_le h (h4.2 i x j s hi hj)⟩

theorem Sl.stable {B:Base} {es:Nat} {s:TV} {L:List (List Sc)} (h:Sl B es s L):(∀ n,s.closed n=true)∧(∀ F c,s=TV.fz F c s)∧(∀ c,TV.ext c s=s):=by
 obtain ⟨p,cap,rfl,h2,h3,h4⟩:=h
 match p,h4 with
 | none,_=>exact ⟨fun _=>rfl,fun _ _=>rfl,fun _=>rfl⟩
 | some (.ext a),_=>exact ⟨fun _=>rfl,fun _ _=>rfl,fun _=>rfl⟩

theorem addr_add_add (a:Addr) (ha:a.spot=none) (n k:Nat):(a.add n).add k=a.add (n+k):=by
 obtain ⟨b,o,s⟩:=a
 simp only at ha
 subst ha
 simp only [addr_off,Nat.add_assoc]

theorem Sl.agg {B:Base} {es:Nat} {a:Addr} {n cap:Nat} {L:List (List Sc)} (h:Sl B es (.one (.slice (some (.ext a)) n cap)) L) {i:Nat} {x:List Sc} (hi:L[i]?=some x) :
  ERead B true es (a.add (i*es)) (.agg x):=by
 obtain ⟨p,cap',h1,h2,h3,h4⟩:=h
 simp only [TV.one.injEq,Sc.slice.injEq] at h1
 obtain ⟨rfl,_,_⟩:=h1
 have hx:=h3 x (List.mem_of_getElem? hi)
 refine ⟨x,hx.1,fun j s hj=>?_,hx.2,rfl⟩
 rw [addr_add_add a h4.1]
 exact h4.2 i x j s hi hj

theorem Sl.one {B:Base} {a:Addr} {n cap:Nat} {L:List (List Sc)} (h:Sl B 1 (.one (.slice (some (.ext a)) n cap)) L) {i:Nat} {s:Sc} (hi:L[i]?=some [s]) :
  ERead B false 1 (a.add (i*1)) (.one s):=by
 obtain ⟨p,cap',h1,h2,h3,h4⟩:=h
 simp only [TV.one.injEq,Sc.slice.injEq] at h1
 obtain ⟨rfl,_,_⟩:=h1
 have hx:=h3 _ (List.mem_of_getElem? hi)
 refine ⟨s,?_,closedL_iff.1 hx.2 s (by simp),rfl⟩
 have:=h4.2 i [s] 0 s hi rfl
 simpa using this

theorem ERead_l {A N:Base} {ag:Bool} {size:Nat} {a:Addr} {v:TV} (h:ERead A ag size a v):ERead (A.or N) ag size a v:=ERead_le (Base.le_l A N) h
theorem flat_get {es:Nat}:∀ {L:List (List Sc)},(∀ x∈L,x.length=es)→∀ {i j:Nat} {x:List Sc} {s:Sc},L[i]?=some x→x[j]?=some s→L.flatten[i*es+j]?=some s
 | [],_,i,j,x,s,hi,_=>by simp at hi
 | y::L,h,0,j,x,s,hi,hj=>by
  simp only [List.getElem?_cons_zero,Option.some.injEq] at hi
  subst hi
  simp only [List.flatten_cons,Nat.zero_mul,Nat.zero_add]
  rw [List.getElem?_append_left (List.getElem?_eq_some_iff.1 hj).1]; exact hj
 | y::L,h,i+1,j,x,s,hi,hj=>by
  have hy:=h y (by simp)
  simp only [List.getElem?_cons_succ] at hi
  simp only [List.flatten_cons]
  rw [List.getElem?_append_right (by rw [hy,Nat.add_mul]; omega),hy,show (i+1)*es+j-es=i*es+j by rw [Nat.add_mul]; omega]
  exact flat_get (fun x hx=>h x (by simp [hx])) hi hj

theorem extL_closed (c:Con):∀ {l:List Sc},closedL 0 l=true→extL c l=l
 | [],_=>rfl
 | s::l,h=>by
  have h1:=closedL_iff.1 h s (by simp)
  have h2:closedL 0 l=true:=closedL_iff.2 fun s hs=>closedL_iff.1 h s (by simp [hs])
  have hs:Sc.ext c s=s:=by
   cases s with
   | ptr p=>cases p with
    | none=>rfl
    | some p=>cases p with
     | ext a=>rfl
     | loc b o=>simp [Sc.closed,SP.closed] at h1
   | slice p n k=>cases p with
    | none=>rfl
    | some p=>cases p with
     | ext a=>rfl
     | loc b o=>simp [Sc.closed,SP.closed] at h1
   | buf b l=>simp [Sc.closed] at h1
   | _=>rfl
  simp only [extL,hs,extL_closed c h2]

theorem sl_lent {c:Con} {B:Base} {bs:Mem} {b o es n cap:Nat} {x:Blk} {L:List (List Sc)} {post:List Sc} (hL:Lent c B bs) (hx:nth bs b=some x) (hc:closedL 0 x.cells=true)
  (he:x.cells.drop o=L.flatten++post) (hn:n=L.length) (hcap:L.length≤cap) (hb:L.length≤140737488355128) (hes:∀ y∈L,y.length=es):Sl B es (.one (.slice (some (.ext ⟨c.ι b,o,none⟩)) n cap)) L:=by
 obtain ⟨junk,h1⟩:=hL b x hx
 rw [extL_closed c hc] at h1
 have hcl:∀ y∈L,closedL 0 y=true:=fun y hy=>closedL_iff.2 fun s hs=>by
  refine closedL_iff.1 hc s (List.mem_of_mem_drop (i:=o) ?_)
  rw [he]
  exact List.mem_append_left _ (List.mem_flatten.2 ⟨y,hy,hs⟩)
 refine ⟨some (.ext ⟨c.ι b,o,none⟩),cap,by rw [hn],⟨hcap,hb⟩,fun y hy=>⟨hes y hy,hcl y hy⟩,rfl,fun i y j s hi hj=>?_⟩
 have hg:=flat_get hes hi hj
 have h2:x.cells[o+(i*es+j)]?=some s:=by
  rw [← List.getElem?_drop,he,List.getElem?_append_left (List.getElem?_eq_some_iff.1 hg).1]; exact hg
 have hlt:=(List.getElem?_eq_some_iff.1 h2).1
 rw [addr_off]
 refine ⟨_,_,_,h1,rfl,?_⟩
 simp only [List.getElem?_toArray]
 rw [List.getElem?_append_left (by simpa using hlt),List.getElem?_map,h2]
 rfl

theorem aops_step {G:Cfg} {all:List Oper} {dst:Option Tmp} {op:Op} {ty:TypeId} {pos:String} {aft:Array Edge} {g:Option (Nat×Bool)} {r:List Oper} {e:Env} {m:HM} {K:Env→HM→Prop}
  (h:∀ (T:TV→HM→Prop) (S:Prop),(∀ v m',aopsC G all r (putE dst v e) m' K→T v m')→(aopsC G all r (putE dst (.tup []) e) m K→S)→wantC all g e (aopC G ⟨dst,op,ty,pos,aft,g⟩ e m T) S) :
  aopsC G all (⟨dst,op,ty,pos,aft,g⟩::r) e m K:=h _ _ (fun _ _ h=>h) (fun h=>h)

theorem aops_end {G:Cfg} {all:List Oper} {e:Env} {m:HM} {K:Env→HM→Prop} (h:K e m):aopsC G all [] e m K:=h

theorem hc_start {A:Base} {f:FuncId} {fn:Func} {args:List TV} {K0:TV→Base→Prop} (ord:Nat→Option (List Nat)) (hf:PG.funcs[f]?=some fn)
  (hb : fn.body = some (bodyOf fn)) (hn : (fn.name == "runtime.NumGoroutine") = false) (hk : okCode (HHo A ord) fn.ntmps (bodyOf fn) = true) (hargs : closedTs 0 args = true)
  (h:swpC (HHo A ord) (bodyOf fn) (post (HHo A ord) fn.results fun v m=>∀ c N1,Base.le m.N N1→Lent c N1 m.bs→K0 (TV.ext c v) N1) (ienv 0 args) M0):HC PG A f args K0:=
 hc_of_call hargs (call_of_swp (gH A ord) hf hb hn hk (swpC_imp _ (fun _ _ _ h=>h) h))

theorem i64_inc {i n:Nat} (h:i<n) (hn:n≤140737488355128):IntKind.i64.wrap ((i:Int)+1)=((i+1:Nat):Int):=by
 simp only [IntKind.wrap,IntKind.signed,IntKind.bits]
 simp
 omega

theorem tv_inc {i n:Nat} (h:i<n) (hn:n≤140737488355128):TV.one (.int .i64 ((i+1:Nat):Int))=TV.one (wr .i64 ((i:Int)+1)):=by
 simp only [wr,i64_inc h hn]

theorem dec_idx {i n:Nat} (h:i<n):decide ((0:Int)≤(i:Int)∧(i:Int)<(n:Int))=true:=decide_eq_true ⟨by omega,by omega⟩

theorem fn_startH {f:FuncId} {fn:Func} {args:List TV} {v:TV} (ord:Nat→Option (List Nat)) (hf:PG.funcs[f]?=some fn)
  (hb : fn.body = some (bodyOf fn)) (hn : (fn.name == "runtime.NumGoroutine") = false) (hk : ∀ A, okCode (HHo A ord) fn.ntmps (bodyOf fn) = true) (hargs : closedTs 0 args = true) (hv : v.closed 0 = true)
  (h:∀ A,swpC (HHo A ord) (bodyOf fn) (post (HHo A ord) fn.results fun v' m=>∀ c N1,Base.le m.N N1→Lent c N1 m.bs→TV.ext c v'=v) (ienv 0 args) M0):Ev.Fn PG f args v:=
 fn_of_hc hv hargs fun A=>hc_start (K0:=fun v' _=>v'=v) ord hf hb hn (hk A) hargs (h A)

end Go.Hv

import Derived.Test.YthmdbgdagnhheaaGreatDoorFe0
import Derived.ProofKit
import Derived.OpenShut
namespace Go.Ev
open Go.ChangeShapes Go.WideShapes Go.ChangeAt Go.RowKit

theorem trodAll_below {H:Type} {enc:TypeId×Value→H} {P:Program} (hl:laidOutB P=true) {W W':World} (hb:Below W.heap.size W W'):∀ (ts:List TypeId) (vs:List Value) (ds:List (DataW H)) (ps:List MemPlace),
  (ts.all fun t=>P.readableRec t&&decide (t<P.types.size))=true→DataW.TrodAll enc P W 0 (fun _=>true) true ts vs ds ps→(∀ p∈ps,p.block<W.heap.size) →
  DataW.TrodAll enc P W' 0 (fun b=>decide (b<W.heap.size)) true ts vs ds ps
 | [],vs,ds,ps,_,h,_=>by
  obtain ⟨rfl,rfl,rfl⟩:=trodAll_nil h
  rfl
 | t::ts,vs,ds,ps,ht,h,hp=>by
  simp only [List.all_cons,Bool.and_eq_true,decide_eq_true_eq] at ht
  obtain ⟨v0,vs0,d0,ds0,p0,q0,rfl,rfl,rfl,h0,r0⟩:=trodAll_cons h
  exact trodAll_cons_mk (Below.trod hl ht.1.1 ht.1.2 h0 hb (fun x hx=>hp x (by simp [hx])))
   (trodAll_below hl hb ts vs0 ds0 q0 ht.2 r0 (fun x hx=>hp x (by simp [hx])))

theorem law_post {H:Type} {enc:TypeId×Value→H} {P:Program} {fn:Func} {s:ChangeSpec} {W W':World} {args:Array Value} {ds gs:List (DataW H)} {before:List MemPlace} {tb:TypeId}
  (hl:laidOutB P=true) (hts:(fn.params.toList.all fun t=>P.readableRec t&&decide (t<P.types.size))=true) (hrt:fn.resultTypes=#[tb]) (htb:P.underlying tb=some .bool)
  (hvars:s.vars=[]) (hW:DataW.Whole enc P fn.params.toList s.vars false W args.toList ds gs before)
  (hspec:(s.fn H (ds++gs)).results=[.lit (.bool true)]∧(s.fn H (ds++gs)).args=ds∧(s.fn H (ds++gs)).vars=[]) (hb:Below W.heap.size W W') :
  s.post enc P fn false true false false W args (.bool true) W':=by
 have hlt:=hW.lt
 have hW':=hW
 obtain ⟨p,q,hA,hV,rfl,_,_⟩:=hW
 rw [hvars] at hV
 obtain ⟨rfl,rfl⟩:=trodVars_none hV
 refine ⟨ds,[],p++[],[],p,[],hW',?_,?_,?_,hb.frame _,fun h=>by cases h⟩
 ·rw [hspec.1,hrt]
  exact trodAll_mk1 (shut_bool htb true)
 ·rw [hspec.2.1]
  exact trodAll_below hl hb _ _ _ _ hts hA (fun x hx=>hlt x (by simp [hx]))
 ·rw [hspec.2.2,hvars]
  exact rfl

theorem open_arr {H:Type} {enc:TypeId×Value→H} {P:Program} {W:World} {base base':Nat} {sp:Nat→Bool} {held:Bool} {t e:TypeId} {n:Nat} {k:IntKind} {v:Value} {d:DataW H} {p:List MemPlace}
  (ht:P.underlying t=some (.array n e)) (he:P.underlying e=some (.int k)) (hce:P.cellsOf e=1) (hct:P.cellsOf t=n) (hok:Value.okWide P W .any base t v) (h:DataW.Trod enc P W base' sp held t v d p) :
  ∃ l:List Int,v=.agg (l.map (Value.int k)).toArray∧l.length=n∧(∀ x∈l,(Lit.int k x).wf=true)∧p=[]:=by
 obtain ⟨cs,rfl,hcs⟩:∃ cs,v=.agg cs∧cs.size=P.cellsOf t:=by
  simp only [Value.okWide,ht] at hok
  obtain ⟨cs,h1,h2,_⟩:=hok
  exact ⟨cs,h1,h2⟩
 obtain ⟨fuel,hf⟩:=h
 obtain ⟨xs,m,_,ex,hlen,hxs,hel⟩:=DataW.trod_array ht hf
 simp only [Prod.mk.injEq] at ex
 obtain ⟨rfl,rfl⟩:=ex
 have hcl:cs.toList.length=n:=by simpa [hct] using hcs
 have one:∀ i,i<n→∃ z,cs.toList[i]?=some (.int k z)∧(Lit.int k z).wf=true∧(xs[i]?.map (·.2))=some []:=fun i hi=>by
  have h1:=hel i hi
  simp only [Value.cells] at h1
  rw [hce,Nat.mul_one,List.getElem?_eq_getElem (by omega)] at h1
  obtain ⟨z,e1,e2,e3⟩:=DataW.trod_int he h1
  refine ⟨z,?_,e3,?_⟩
  ·have h0:((cs.toList.drop i).take 1)[0]?=some (.int k z):=by rw [e1]; rfl
   simpa using h0
  ·rw [List.getElem?_eq_getElem (by omega),e2]; rfl
 have hval:∃ l:List Int,cs.toList=l.map (Value.int k)∧∀ x∈l,(Lit.int k x).wf=true:=by
  have:∀ (l:List Value),(∀ v∈l,∃ z,v=.int k z∧(Lit.int k z).wf=true)→∃ r:List Int,l=r.map (Value.int k)∧∀ x∈r,(Lit.int k x).wf=true:=by
   intro l
   induction l with
   | nil=>intro _; exact ⟨[],rfl,by simp⟩
   | cons v l ih=>
    intro hl
    obtain ⟨z,rfl,hz⟩:=hl v (by simp)
    obtain ⟨r,rfl,hr⟩:=ih (fun u hu=>hl u (by simp [hu]))
    exact ⟨z::r,rfl,by simp [hz]; exact hr⟩
  refine this _ fun v hv=>?_
  obtain ⟨i,hi,rfl⟩:=List.getElem_of_mem hv
  obtain ⟨z,h1,h2,_⟩:=one i (by omega)
  rw [List.getElem?_eq_getElem hi] at h1
  exact ⟨z,by simpa using h1,h2⟩
 obtain ⟨l,hl,hwf⟩:=hval
 refine ⟨l,?_,?_,hwf,?_⟩
 ·congr 1
  rw [← hl]
 ·have:=congrArg List.length hl
  rw [hcl] at this
  simpa using this.symm
 ·rw [List.flatMap_eq_nil_iff]
  intro x hx
  obtain ⟨i,hi,rfl⟩:=List.getElem_of_mem hx
  obtain ⟨_,_,_,h3⟩:=one i (by omega)
  rw [List.getElem?_eq_getElem hi] at h3
  simpa using h3

theorem wf_u64 {x:Int} (h:(Lit.int .u64 x).wf=true):InU x:=by
 have:=bounds_u64 h
 exact ⟨by omega,by omega⟩

theorem open_w {H:Type} {enc:TypeId×Value→H} {P:Program} {W0:World} {base base':Nat} {sp:Nat→Bool} {held:Bool} {t e:TypeId} {v:Value} {d:DataW H} {p:List MemPlace}
  (ht:P.underlying t=some (.array 4 e)) (he:P.underlying e=some (.int .u64)) (hce:P.cellsOf e=1) (hct:P.cellsOf t=4) (hok:Value.okWide P W0 .any base t v) (h:DataW.Trod enc P W0 base' sp held t v d p) :
  ∃ x:Int,InW x∧v=(W x).conc Con0∧p=[]:=by
 obtain ⟨l,rfl,hl,hwf,hp⟩:=open_arr ht he hce hct hok h
 match l,hl with
 | [a,b,c,d],_=>
  have ha:=wf_u64 (hwf a (by simp))
  have hb:=wf_u64 (hwf b (by simp))
  have hc:=wf_u64 (hwf c (by simp))
  have hd:=wf_u64 (hwf d (by simp))
  refine ⟨val a b c d,⟨by unfold val; omega,by unfold val; omega⟩,?_,hp⟩
  simp only [TV.conc,W,words_val ha hb hc hd]
  rfl

end Go.Ev

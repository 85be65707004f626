import Derived.Test.YthmdbgdagnhheaaGreatDoorLaw
import Derived.Test.YthmdbgdagnhheaaGreatDoorCu4
import Derived.Test.YthmdbgdagnhheaaGreatDoorByB
namespace Go.Hv
open Go.Ev

section
variable {H:Type} {enc:TypeId×Value→H} {P:Program} {W0:World} {base:Nat} {sp:Nat→Bool} {held:Bool} {fuel:Nat} {t e:TypeId} {cs:List Value} {x:DataW H×List MemPlace}

end
end Go.Hv

namespace Go.Hv
open Go.Ev

section
variable {H:Type} {enc:TypeId×Value→H} {P:Program} {W0:World} {base:Nat} {sp:Nat→Bool} {held:Bool} {fuel:Nat} {t e:TypeId} {cs:List Value} {x:DataW H×List MemPlace}

theorem cl_arr {n:Nat} {k:IntKind} (ht:P.underlying t=some (.array n e)) (he:P.underlying e=some (.int k)) (hce:P.cellsOf e=1) (hct:P.cellsOf t=n) (h:DataW.trod enc P W0 base sp held fuel t cs=some x) :
  ∃ l:List Int,cs=l.map (Value.int k)∧l.length=n∧(∀ x∈l,(Lit.int k x).wf=true)∧x.2=[]:=by
 obtain ⟨xs,m,_,rfl,hcl,hlen,hel⟩:=DataW.trod_array ht h
 rw [hct] at hcl
 have one:∀ i,i<n→∃ z,cs[i]?=some (.int k z)∧(Lit.int k z).wf=true∧(xs[i]?.map (·.2))=some []:=fun i hi=>by
  have h1:=hel i hi
  rw [hce,Nat.mul_one,List.getElem?_eq_getElem (by omega)] at h1
  obtain ⟨z,e1,e2,e3⟩:=DataW.trod_int he h1
  refine ⟨z,?_,e3,?_⟩
  ·have h0:((cs.drop i).take 1)[0]?=some (.int k z):=by rw [e1]; rfl
   simpa using h0
  ·rw [List.getElem?_eq_getElem (by omega),e2]; rfl
 have hval:∃ l:List Int,cs=l.map (Value.int k)∧∀ x∈l,(Lit.int k x).wf=true:=by
  have:∀ (l:List Value),(∀ v∈l,∃ z,v=.int k z∧(Lit.int k z).wf=true)→∃ r:List Int,l=r.map (Value.int k)∧∀ x∈r,(Lit.int k x).wf=true:=by
   intro l
   induction l with
   | nil=>intro _; exact ⟨[],rfl,by simp⟩
   | cons v l ih=>
    intro hl
    obtain ⟨z,rfl,hz⟩:=hl v (by simp)
    obtain ⟨r,rfl,hr⟩:=ih (fun u hu=>hl u (by simp [hu]))
    exact ⟨z::r,rfl,by simp [hz]; exact hr⟩
  refine this _ fun v hv=>?_
  obtain ⟨i,hi,rfl⟩:=List.getElem_of_mem hv
  obtain ⟨z,h1,h2,_⟩:=one i (by omega)
  rw [List.getElem?_eq_getElem hi] at h1
  exact ⟨z,by simpa using h1,h2⟩
 obtain ⟨l,hl,hwf⟩:=hval
 refine ⟨l,hl,?_,hwf,?_⟩
 ·have:=congrArg List.length hl
  rw [hcl] at this
  simpa using this.symm
 ·rw [List.flatMap_eq_nil_iff]
  intro x hx
  obtain ⟨i,hi,rfl⟩:=List.getElem_of_mem hx
  obtain ⟨_,_,_,h3⟩:=one i (by omega)
  rw [List.getElem?_eq_getElem hi] at h3
  simpa using h3

end
end Go.Hv

namespace Go.Hv
open Go.Ev

section
variable {H:Type} {enc:TypeId×Value→H} {P:Program} {W0:World} {base:Nat} {sp:Nat→Bool} {held:Bool} {t e:TypeId}

theorem open_dg {base':Nat} {v:Value} {d:DataW H} {p:List MemPlace} (ht:P.underlying t=some (.array 32 e)) (he:P.underlying e=some (.int .u8)) (hce:P.cellsOf e=1) (hct:P.cellsOf t=32) (hok:Value.okWide P W0 .any base' t v) (h:DataW.Trod enc P W0 base sp held t v d p) :
  ∃ D:List Int,D.length=32∧(∀ z∈D,0≤z∧z<256)∧v=(TV.agg (D.map (Sc.int .u8))).conc Con0∧p=[]:=by
 obtain ⟨cs,rfl,hcs⟩:∃ cs,v=.agg cs∧cs.size=P.cellsOf t:=by
  simp only [Value.okWide,ht] at hok
  obtain ⟨cs,h1,h2,_⟩:=hok
  exact ⟨cs,h1,h2⟩
 obtain ⟨fuel,hfl⟩:=h
 obtain ⟨D,e1,e2,e3,e4⟩:=cl_arr ht he hce hct hfl
 refine ⟨D,e2,fun z hz=>wf_u8' (e3 z hz),?_,e4⟩
 simp only [Value.cells] at e1
 simp only [TV.conc,List.map_map]
 congr 1
 rw [show D.map (Sc.conc Con0 ∘ Sc.int .u8)=D.map (Value.int .u8) from rfl,← e1]

end
end Go.Hv

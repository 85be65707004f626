import Derived.Test.YthmdbgdagnhheaaGreatDoorOpW
import Derived.Test.YthmdbgdagnhheaaGreatDoorOpC
import Derived.Test.YthmdbgdagnhheaaGreatDoorGn1
namespace Go.Hv
open Go.Ev Go.ChangeShapes Go.WideShapes Go.ChangeAt Go.RowKit

theorem open_bs {H:Type} {enc:TypeId×Value→H} {P:Program} {W:World} {base base':Nat} {sp:Nat→Bool} {held:Bool} {t e:TypeId} {v:Value} {d:DataW H} {p:List MemPlace}
  (ht:P.underlying t=some (.slice e)) (he:P.underlying e=some (.int .u8)) (hce:P.cellsOf e=1) (hok:Value.okWide P W .any base t v) (h:DataW.Trod enc P W base' sp held t v d p)
  (hsz:∀ el spare,d=.slice el spare→(el.length+spare.length)*1≤reachBytes) :
  ∃ (q:Option SP) (cap:Nat) (l:List Int),v=(TV.one (.slice q l.length cap)).conc Con0∧(∀ x∈l,0≤x∧x<256)∧Sl (fun r o=>W.heap[r]?=some o) 1 (.one (.slice q l.length cap)) (ones (u8s l))∧l.length≤140737488351232:=by
 have hv:v.cells.toList=[v]:=by
  cases v<;>first
   | rfl
   | (exfalso; simp [Value.okWide,ht,Cell.okWide,Cell.ok] at hok)
 obtain ⟨fuel,hf⟩:=h
 rw [hv] at hf
 rcases DataW.trod_slice ht hf with ⟨hcs,_⟩ | ⟨a,len,cap,elems,rest,n,_,hcs,hx,_,hl,hm,hlen,hel,_⟩
 ·obtain rfl:v=.slice none 0 0:=by simpa using hcs
  refine ⟨none,0,[],rfl,fun x hx=>(by cases hx),⟨none,0,rfl,⟨Nat.le_refl _,by simp [ones]⟩,fun x hx=>(by cases hx),rfl,rfl⟩,by simp⟩
 ·obtain rfl:v=.slice (some a) len cap:=by simpa using hcs
  have hd:d=.slice (elems.map (·.1)) (rest.map (·.1)):=(Prod.mk.inj hx).1
  have each:∀ i,i<len→∃ z:Int,(0≤z∧z<256)∧W.cell? (a.add i)=some (Value.int .u8 z):=fun i hi=>by
   have h1:=hel i hi
   rw [hce,List.getElem?_eq_getElem (by omega),Option.bind_eq_some_iff] at h1
   obtain ⟨cs,h2,h3⟩:=h1
   obtain ⟨z,rfl,_,hw⟩:=DataW.trod_int he h3
   refine ⟨z,wf_u8' hw,?_⟩
   unfold World.cells? at h2
   split at h2
   ·have:=mapM_some_get h2 0 0 (by simp)
    rw [show a.add i=(a.add (i*1)).add 0 by rw [Nat.mul_one]; rfl,this]
    rfl
   ·cases h2
  have all:∀ n,n≤len→∃ l:List Int,l.length=n∧(∀ x∈l,0≤x∧x<256)∧∀ i x,l[i]?=some x→W.cell? (a.add i)=some (Value.int .u8 x):=fun n=>by
   induction n with
   | zero=>exact fun _=>⟨[],rfl,fun x hx=>(by cases hx),fun i x hi=>(by simp at hi)⟩
   | succ n ih=>
    intro hn
    obtain ⟨l,h1,h2,h3⟩:=ih (by omega)
    obtain ⟨z,hz,hc⟩:=each n (by omega)
    refine ⟨l++[z],by simp [h1],fun x hx=>?_,fun i x hi=>?_⟩
    ·simp only [List.mem_append,List.mem_singleton] at hx
     rcases hx with hx | rfl
     ·exact h2 x hx
     ·exact hz
    ·rcases Nat.lt_or_ge i l.length with hlt | hge
     ·rw [List.getElem?_append_left hlt] at hi
      exact h3 i x hi
     ·rw [List.getElem?_append_right hge] at hi
      have hi0:i-l.length=0:=by
       have:=(List.getElem?_eq_some_iff.1 hi).1
       simp at this
       omega
      rw [hi0] at hi
      simp only [List.getElem?_cons_zero,Option.some.injEq] at hi
      subst hi
      obtain rfl:i=n:=by omega
      exact hc
  obtain ⟨l,hll,hin,hcell⟩:=all len (Nat.le_refl _)
  subst hll
  have hsp:a.spot=none:=by
   simp only [Value.okWide,ht,Cell.okWide,Cell.ok] at hok
   exact hok.2.2.2.1
  have hmax:l.length≤140737488351232:=by
   have:=hsz _ _ hd
   rw [List.length_map,hlen] at this
   unfold reachBytes at this
   omega
  have hol:(ones (u8s l)).length=l.length:=by rw [ones_len,List.length_map]
  refine ⟨some (.ext a),cap,l,rfl,hin,⟨some (.ext a),cap,by rw [hol],⟨by rw [hol]; omega,by rw [hol]; omega⟩,fun x hx=>?_,hsp,fun i x j s hi hj=>?_⟩,hmax⟩
  ·obtain ⟨s,hs,rfl⟩:=List.mem_map.1 hx
   obtain ⟨z,_,rfl⟩:=List.mem_map.1 hs
   exact ⟨rfl,rfl⟩
  ·simp only [ones,List.getElem?_map,Option.map_eq_some_iff] at hi
   obtain ⟨s',⟨z,hz,rfl⟩,rfl⟩:=hi
   have hj0:j=0:=by
    have:=(List.getElem?_eq_some_iff.1 hj).1
    simpa using this
   subst hj0
   obtain rfl:=Option.some.inj hj
   have:=bcell_of_cell (hcell i z hz)
   rwa [show i*1+0=i by omega]

theorem open_sg {H:Type} {enc:TypeId×Value→H} {P:Program} {W0:World} {base base':Nat} {sp:Nat→Bool} {held:Bool} {t e:TypeId} {v:Value} {d:DataW H} {p:List MemPlace}
  (ht:P.underlying t=some (.array 64 e)) (he:P.underlying e=some (.int .u8)) (hce:P.cellsOf e=1) (hct:P.cellsOf t=64) (hok:Value.okWide P W0 .any base' t v) (h:DataW.Trod enc P W0 base sp held t v d p) :
  ∃ D:List Int,D.length=64∧(∀ z∈D,0≤z∧z<256)∧v=(TV.agg (D.map (Sc.int .u8))).conc Con0∧p=[]:=by
 obtain ⟨D,e1,e2,e3,e4⟩:=open_arr ht he hce hct hok h
 refine ⟨D,e2,fun z hz=>wf_u8' (e3 z hz),?_,e4⟩
 rw [e1]
 simp only [TV.conc,List.map_map]
 rfl

end Go.Hv

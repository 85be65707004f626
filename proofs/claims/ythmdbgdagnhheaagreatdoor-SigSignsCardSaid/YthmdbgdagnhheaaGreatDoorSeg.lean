import Derived.Test.YthmdbgdagnhheaaGreatDoorHs
namespace Go.Hv
open Go.Ev

theorem takeAt_app (a b c:List Sc):takeAt (a++(b++c)) a.length b.length=some b:=by
 induction a with
 | nil=>
  induction b with
  | nil=>cases c<;>rfl
  | cons x b ih=>simp only [List.nil_append,List.cons_append,List.length_cons,List.length_nil,takeAt] at ih ⊢; rw [ih]
 | cons x a ih=>simp only [List.cons_append,List.length_cons,takeAt]; exact ih

theorem putAt_app (a b c d:List Sc) (h:b.length=d.length):putAt (a++(b++c)) a.length d=some (a++(d++c)):=by
 induction a with
 | nil=>
  induction b generalizing d with
  | nil=>cases d with
   | nil=>cases c<;>rfl
   | cons y d=>cases h
  | cons x b ih=>cases d with
   | nil=>cases h
   | cons y d=>
    have:=ih d (by simpa using h)
    simp only [List.nil_append,List.cons_append,List.length_nil,putAt] at this ⊢; rw [this]
 | cons x a ih=>simp only [List.cons_append,List.length_cons,putAt]; rw [ih]

theorem flat_len {es:Nat}:∀ (L:List (List Sc)),(∀ x∈L,x.length=es)→L.flatten.length=L.length*es
 | [],_=>by simp
 | x::L,h=>by
  have h1:=h x (by simp)
  have h2:=flat_len L (fun y hy=>h y (by simp [hy]))
  simp only [List.flatten_cons,List.length_append,List.length_cons,h1,h2,Nat.add_mul,Nat.one_mul]
  omega

theorem seg_split {es:Nat} {L:List (List Sc)} (h:∀ x∈L,x.length=es) {i:Nat} (hi:i<L.length):L.flatten=(L.take i).flatten++(L[i]++(L.drop (i+1)).flatten)∧(L.take i).flatten.length=i*es∧L[i].length=es:=by
 refine ⟨?_,?_,h _ (List.getElem_mem hi)⟩
 ·have e:L=L.take i++(L[i]::L.drop (i+1)):=by rw [← List.drop_eq_getElem_cons hi,List.take_append_drop]
  have h2:=congrArg List.flatten e
  rw [List.flatten_append,List.flatten_cons] at h2
  exact h2
 ·rw [flat_len _ (fun x hx=>h x (List.mem_of_mem_take hx)),List.length_take,Nat.min_eq_left (Nat.le_of_lt hi)]

theorem seg_take {es:Nat} {L:List (List Sc)} (h:∀ x∈L,x.length=es) {i:Nat} (hi:i<L.length):takeAt L.flatten (i*es) es=some L[i]:=by
 obtain ⟨h1,h2,h3⟩:=seg_split h hi
 rw [h1,← h2]
 have:=takeAt_app (L.take i).flatten L[i] (L.drop (i+1)).flatten
 rw [h3] at this
 exact this

theorem seg_put {es:Nat} {L:List (List Sc)} (h:∀ x∈L,x.length=es) {i:Nat} (hi:i<L.length) {d:List Sc} (hd:d.length=es):putAt L.flatten (i*es) d=some (L.set i d).flatten:=by
 obtain ⟨h1,h2,h3⟩:=seg_split h hi
 rw [h1,← h2,putAt_app _ _ _ _ (by rw [h3,hd])]
 congr 1
 rw [List.set_eq_take_append_cons_drop,if_pos hi]
 simp

def ones (l:List Sc):List (List Sc):=l.map fun c=>[c]
theorem ones_flat:∀ (l:List Sc),(ones l).flatten=l
 | []=>rfl
 | c::l=>by simp only [ones,List.map_cons,List.flatten_cons,List.singleton_append]; exact congrArg (c::·) (ones_flat l)
theorem ones_len (l:List Sc):(ones l).length=l.length:=by simp [ones]
theorem ones_es (l:List Sc):∀ y∈ones l,y.length=1:=fun y hy=>by
 simp only [ones,List.mem_map] at hy
 obtain ⟨c,_,rfl⟩:=hy
 rfl

theorem take1 {l:List Sc} {j:Nat} (h:j<l.length):takeAt l (0+j*1) 1=some [l[j]]:=by
 have e:l=l.take j++([l[j]]++l.drop (j+1)):=by
  rw [List.singleton_append,← List.drop_eq_getElem_cons h,List.take_append_drop]
 have:=takeAt_app (l.take j) [l[j]] (l.drop (j+1))
 rw [← e,List.length_take,Nat.min_eq_left (Nat.le_of_lt h)] at this
 simpa using this

theorem take_snoc {l:List Sc} {j:Nat} (h:j<l.length):l.take j++[l[j]]=l.take (j+1):=(List.take_succ_eq_append_getElem h).symm

theorem take_cl {l:List Sc} {n:Nat} (h:closedL 0 l=true) (j:Nat):closedL n (l.take j)=true:=closedL_mono (Nat.zero_le n) (closedL_iff.2 fun s hs=>closedL_iff.1 h s (List.mem_of_mem_take hs))

end Go.Hv

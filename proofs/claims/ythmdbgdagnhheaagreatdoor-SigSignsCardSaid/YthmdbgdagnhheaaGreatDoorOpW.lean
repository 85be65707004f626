import Derived.Test.YthmdbgdagnhheaaGreatDoorLaw
import Derived.ChangeArms
import Derived.ChangeSlices
import Derived.DataReads
import Derived.SizedLaws
import Derived.Test.YthmdbgdagnhheaaGreatDoorHs
namespace Go.Hv
open Go.Ev Go.ChangeShapes Go.WideShapes Go.ChangeAt Go.RowKit

theorem calls_of_HC' {P:Program} {f:FuncId} {args:List TV} {b:Bool} {W:World} (h:HC P (fun r o=>W.heap[r]?=some o) f args fun v _=>v=.one (.bool b)) :
  Calls P f (args.map (TV.conc Con0)).toArray W fun e W'=>e=.returned (.bool b)∧Below W.heap.size W W':=by
 refine (h.2 W (fun r o h=>h)).mono fun e W' hh=>?_
 obtain ⟨v,N,h1,h2,h3,h4,h5,h6,h7⟩:=hh
 subst h7
 exact ⟨by rw [h1]; rfl,⟨h5.os,h5.tape,h5.output,h5.size,h6⟩⟩

theorem bcell_of_cell {W:World} {a:Addr} {v:Value} (hc:W.cell? a=some v):bcell (fun r o=>W.heap[r]?=some o) a v:=by
 have hs':=World.cell?_spot hc
 unfold World.cell? at hc
 cases hh:W.heap[a.block]? with
 | none=>rw [hh] at hc; cases hc
 | some o=>
  rw [hh] at hc
  cases o with
  | cells cs el fz=>
   simp only [hs',Option.isSome_none,Bool.false_eq_true,if_false] at hc
   exact ⟨cs,el,fz,hh,hs',hc⟩
  | _=>cases hc

end Go.Hv

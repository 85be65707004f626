import Derived.Test.YthmdbgdagnhheaaDoorByB
import Derived.Test.YthmdbgdagnhheaaDoorSeg
import Derived.Test.YthmdbgdagnhheaaDoorHvR
namespace Go.Hv
open Go.Ev

theorem hco_start {A : Base} {f : FuncId} {fn : Func} {args : List TV} {K0 : Nat → Nat → Blk → Base → Prop} (ord : Nat → Option (List Nat)) (hf : PG.funcs[f]? = some fn)
  (hb : fn.body = some (bodyOf fn)) (hn : (fn.name == "runtime.NumGoroutine") = false) (hk : okCode (HHo A ord) fn.ntmps (bodyOf fn) = true) (hargs : closedTs 0 args = true)
  (h : swpC (HHo A ord) (bodyOf fn) (post (HHo A ord) fn.results fun v m => ∃ b n cap k, v = .one (.slice (some (.loc b 0)) n cap) ∧ nth m.bs b = some k ∧ closedL 0 k.cells = true ∧ K0 n cap k m.N) (ienv 0 args) M0) : HCO PG A f args K0 :=
 hco_of_call hargs (call_of_swp (gH A ord) hf hb hn hk (swpC_imp _ (fun _ _ _ h => h) h))

def limbL (l0 l1 l2 l3 : Int) : Nat → Int
 | 0 => l0
 | 1 => l1
 | 2 => l2
 | _ => l3

theorem cap_bytes {n : Nat} (h : n ≤ 1000000) : CapOk n 1 := ⟨by omega, by omega⟩

end Go.Hv

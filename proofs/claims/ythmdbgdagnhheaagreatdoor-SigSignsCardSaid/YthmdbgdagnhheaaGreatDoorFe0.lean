import Derived.Test.YthmdbgdagnhheaaGreatDoorTys
namespace Go.Ev

def bodyOf (f:Func):Code:=match f.body with | some c=>c | none=>.skip

theorem fn_start {P:Program} (G:World→Cfg) (hG:∀ W0,CfgOk (G W0)) (hP:∀ W0,(G W0).P=P) (hW:∀ W0,(G W0).W0=W0) {f:FuncId} {fn:Func} {args:List TV} {v:TV} (hf:P.funcs[f]?=some fn)
  (hb : fn.body = some (bodyOf fn)) (hn : (fn.name == "runtime.NumGoroutine") = false) (hk : ∀ W0, okCode (G W0) fn.ntmps (bodyOf fn) = true) (hv : v.closed 0 = true)
  (hargs:∀ u∈args,u.closed 0=true) (h:∀ W0,swp (G W0) (bodyOf fn) (post (G W0) fn.results fun v' _=>v'=v) (ienv 0 args) []):Fn P f args v:=by
 refine ⟨hv,fn_of_empty hv hargs fun W0=>?_⟩
 have:=call_of_swp (hG W0) (f:=f) (fn:=fn) (cd:=bodyOf fn) (args:=args) (m:=[]) (K:=fun v' _=>v'=v) (by rw [hP]; exact hf) hb hn (hk W0) (h W0)
 rwa [hP,hW] at this

def u (n:Int):Sc:=.int .u64 n
def w4 (a b c d:Int):TV:=.agg [u a,u b,u c,u d]

abbrev InU (a:Int):Prop:=0≤a∧a<18446744073709551616
abbrev InW (a:Int):Prop:=0≤a∧a<115792089237316195423570985008687907853269984665640564039457584007913129639936

def val (a b c d:Int):Int:=a+18446744073709551616*b+340282366920938463463374607431768211456*c+6277101735386680763835789423207666416102355444464034512896*d

def words (x:Int):List Sc:=[u (x%18446744073709551616),u (x/18446744073709551616%18446744073709551616),u (x/340282366920938463463374607431768211456%18446744073709551616),
 u (x/6277101735386680763835789423207666416102355444464034512896%18446744073709551616)]
def W (x:Int):TV:=.agg (words x)

theorem words_val {a b c d:Int} (ha:InU a) (hb:InU b) (hc:InU c) (hd:InU d):words (val a b c d)=[u a,u b,u c,u d]:=by
 have h0:val a b c d%18446744073709551616=a:=by unfold val; omega
 have h1:val a b c d/18446744073709551616%18446744073709551616=b:=by unfold val; omega
 have h2:val a b c d/340282366920938463463374607431768211456%18446744073709551616=c:=by unfold val; omega
 have h3:val a b c d/6277101735386680763835789423207666416102355444464034512896%18446744073709551616=d:=by unfold val; omega
 simp only [words,h0,h1,h2,h3]

theorem split4 {x:Int} (hx:InW x):∃ a b c d,InU a∧InU b∧InU c∧InU d∧x=val a b c d:=by
 refine ⟨x%18446744073709551616,x/18446744073709551616%18446744073709551616,x/340282366920938463463374607431768211456%18446744073709551616,
  x/6277101735386680763835789423207666416102355444464034512896%18446744073709551616,⟨by omega,by omega⟩,⟨by omega,by omega⟩,⟨by omega,by omega⟩,⟨by omega,by omega⟩,?_⟩
 unfold val
 omega

theorem words_eq {x a b c d:Int} (ha:InU a) (hb:InU b) (hc:InU c) (hd:InU d) (hx:x=a+18446744073709551616*b+340282366920938463463374607431768211456*c+6277101735386680763835789423207666416102355444464034512896*d) :
  [u a,u b,u c,u d]=words x:=by
 rw [hx]; exact (words_val ha hb hc hd).symm

theorem weq {x y:Int} (hx:InW x) (hy:InW y):((x%18446744073709551616==y%18446744073709551616) &&
  ((x/18446744073709551616%18446744073709551616==y/18446744073709551616%18446744073709551616) &&
   ((x/340282366920938463463374607431768211456%18446744073709551616==y/340282366920938463463374607431768211456%18446744073709551616) &&
    ((x/6277101735386680763835789423207666416102355444464034512896%18446744073709551616==y/6277101735386680763835789423207666416102355444464034512896%18446744073709551616)&&true))))=decide (x=y):=by
 by_cases h:x=y
 ·subst h; simp
 ·rw [decide_eq_false h]
  cases h0:(x%18446744073709551616==y%18446744073709551616)<;>simp only [Bool.false_and,Bool.true_and]
  cases h1:(x/18446744073709551616%18446744073709551616==y/18446744073709551616%18446744073709551616)<;>simp only [Bool.false_and,Bool.true_and]
  cases h2:(x/340282366920938463463374607431768211456%18446744073709551616==y/340282366920938463463374607431768211456%18446744073709551616)<;>simp only [Bool.false_and,Bool.true_and]
  cases h3:(x/6277101735386680763835789423207666416102355444464034512896%18446744073709551616==y/6277101735386680763835789423207666416102355444464034512896%18446744073709551616)<;>simp only [Bool.false_and,Bool.true_and]
  simp only [beq_iff_eq] at h0 h1 h2 h3
  exact absurd (by omega) h

end Go.Ev

import Derived.Test.YtaochmekimkegaaDoorHvR
import Derived.RangeFuncNested
import Derived.OrdersIn
import Derived.TacticsIn
import Derived.Test.YtaochmekimkegaaDoorCu9
import Derived.Test.YtaochmekimkegaaDoorCm1
namespace Go.Hv
open Go.Ev

def FW (ro : Option Nat) : Fence := { Fence.wide with round := ro }

def actApp (a : Act) (ds : List Deferred) : Act := { a with defers := a.defers ++ ds }

theorem put_app (a : Act) (ds : List Deferred) (d : Option Tmp) (v : Value) : (actApp a ds).put d v = actApp (a.put d v) ds := by cases d <;> rfl

theorem calls_FW {ro : Option Nat} {n : Nat} {P : Program} {f : FuncId} {args : Array Value} {w : World} {R : Ending → World → Prop} (h : Calls P f args w R) : CallsIn (FW ro) n P f args w R :=
 (callsIn_wide (n := n)).2 h

theorem rows_FW {ro : Option Nat} {n : Nat} {P : Program} {row : String} {args : Array Value} {w : World} {R : Value → World → Prop} (h : Rows P row args w R) : RowsIn (FW ro) n P row args w R :=
 fun c cs _ => let ⟨v, w', r, s⟩ := h c cs; ⟨v, w', r, stepsIn_wide.2 s⟩

def notDefer (o : Oper) : Bool :=
 match o.op with
 | .defer _ => false
 | _ => true

theorem wp_FW {P : Program} {ro : Option Nat} {n : Nat} {o : Oper} {a : Act} {w : World} {ds : List Deferred} {next next' : Act → World → Prop} {Q Q' : Exit → Act → World → Prop} (ho : notDefer o = true)
  (hp : ∀ c a w, ¬ Q (.panic c) a w) (hl : ¬ LetsOut Q) (h : o.wp P a w next Q) (hn : ∀ a' w', next a' w' → next' (actApp a' ds) w') : o.wpIn (FW ro) n P (actApp a ds) w next' Q' := by
 refine ⟨fun _ _ => trivial, ?_⟩
 have hs : o.semAt ro (actApp a ds).eval = execOp a.eval o := Oper.semAt_eq ro _ o (fun c hc => by simp [notDefer, hc] at ho)
 show o.uponIn (FW ro) n P (actApp a ds) next' Q' ((o.semAt ro (actApp a ds).eval).run P w)
 rw [hs]
 unfold Oper.wp at h
 generalize (execOp a.eval o).run P w = r at *
 cases r with
 | ok x w' =>
  cases x <;> simp only [Oper.upon, Oper.uponIn] at h ⊢ <;>
   first
    | (have := hn _ _ h; rw [← put_app] at this; exact this)
    | exact ⟨fun hh => (by cases hh), (calls_FW h).mono fun e w'' he => by
      cases e with
      | returned v => have := hn _ _ he; rw [← put_app] at this; exact this
      | panicked ch => exact (hp _ _ _ he).elim
      | outgrown => exact (hl he).elim⟩
    | exact ⟨fun hh => (by cases hh), (rows_FW h).mono fun v w'' he => by have := hn _ _ he; rw [← put_app] at this; exact this⟩
    | exact h.elim
 | halt x w' => cases x <;> simp only [Oper.upon, Oper.uponIn] at h ⊢ <;> first | exact (hp _ _ _ h).elim | exact h.elim

theorem wpList_FW {P : Program} {ro : Option Nat} {n : Nat} {ds : List Deferred} {ops : Array Oper} {Q Q' : Exit → Act → World → Prop}
  (hp : ∀ c a w, ¬ Q (.panic c) a w) (hl : ¬ LetsOut Q) (hQ : ∀ a' w', Q .normal a' w' → Q' .normal (actApp a' ds) w') : ∀ (l : List Oper) (a : Act) (w : World), l.all notDefer = true →
  wpList P ops Q l a w → wpListIn (FW ro) n P ops Q' l (actApp a ds) w
 | [], a, w, _, h => hQ a w h
 | o :: l, a, w, hd, h => by
  simp only [List.all_cons, Bool.and_eq_true] at hd
  unfold wpList at h
  unfold wpListIn
  by_cases hw : Region.wanted o (yielded ops a.tmps) = true
  ·rw [if_pos hw] at h
   rw [if_pos (show Region.wanted o (yielded ops (actApp a ds).tmps) = true from hw)]
   rcases h with h | ⟨_, h⟩
   ·exact wp_FW hd.1 hp hl h fun a' w' hh => wpList_FW hp hl hQ l a' w' hd.2 hh
   ·exact (hl h).elim
  ·rw [if_neg hw] at h
   rw [if_neg (show ¬ Region.wanted o (yielded ops (actApp a ds).tmps) = true from hw), put_app]
   exact ⟨fun _ _ => trivial, wpList_FW hp hl hQ l _ w hd.2 h⟩

theorem wpAny_FW {P : Program} {ro : Option Nat} {n : Nat} {ds : List Deferred} {md : Region.Mode} {ops : Array Oper} {Q Q' : Exit → Act → World → Prop}
  (hp : ∀ c a w, ¬ Q (.panic c) a w) (hl : ¬ LetsOut Q) (hQ : ∀ a' w', Q .normal a' w' → Q' .normal (actApp a' ds) w') (hd : ops.toList.all notDefer = true) : ∀ (f : Nat) (listed : Array Bool) (a : Act) (w : World),
  wpAny P md ops Q f listed a w → wpAnyIn (FW ro) n P md ops Q' f listed (actApp a ds) w
 | 0, listed, a, w, h => ⟨h.1, hQ a w h.2⟩
 | f + 1, listed, a, w, h => by
  refine ⟨fun h0 => hQ a w (h.1 h0), fun i hi => ?_⟩
  have hh := h.2 i hi
  unfold wpOp at hh
  unfold wpOpIn
  cases ho : ops[i]? with
  | none =>
   simp only [ho] at hh ⊢
   exact wpAny_FW hp hl hQ hd f _ a w hh
  | some o =>
   simp only [ho] at hh ⊢
   have hdo : notDefer o = true := List.all_eq_true.1 hd o (by simpa using Array.mem_of_getElem? ho)
   by_cases hw : Region.wanted o (yielded ops a.tmps) = true
   ·rw [if_pos hw] at hh
    rw [if_pos (show Region.wanted o (yielded ops (actApp a ds).tmps) = true from hw)]
    rcases hh with hh | ⟨_, hh⟩
    ·exact wp_FW hdo hp hl hh fun a' w' h' => wpAny_FW hp hl hQ hd f _ a' w' h'
    ·exact (hl hh).elim
   ·rw [if_neg hw] at hh
    rw [if_neg (show ¬ Region.wanted o (yielded ops (actApp a ds).tmps) = true from hw), put_app]
    exact ⟨fun _ _ => trivial, wpAny_FW hp hl hQ hd f _ _ w hh⟩

def plainC : Code → Bool
 | .region _ ops _ => ops.toList.all notDefer
 | .seq a b | .cond _ a b => plainC a && plainC b
 | .block _ b => plainC b
 | .skip | .label _ | .exit _ | .ret => true
 | _ => false

section
variable {G : Cfg} {N : Nat}

def PostN (G : Cfg) (N : Nat) (c : Con) (m : HM) (w : World) (K : Env → HM → Prop) : Exit → Act → World → Prop :=
 fun x a' w' => x = .normal ∧ ∃ e' m' c', K e' m' ∧ St G N c' m' e' a' w' ∧ Since c m w c' m' w'

theorem postN_p {c : Con} {m : HM} {w : World} {K : Env → HM → Prop} : ∀ ch a w', ¬ PostN G N c m w K (.panic ch) a w' := fun _ _ _ h => by cases h.1
theorem postN_l {c : Con} {m : HM} {w : World} {K : Env → HM → Prop} : ¬ LetsOut (PostN G N c m w K) := fun ⟨_, _, h⟩ => by cases h.1

def PostF (G : Cfg) (N : Nat) (c : Con) (m : HM) (w : World) (ds : List Deferred) (Q : Exit → Env → HM → Prop) : Exit → Act → World → Prop :=
 fun x a' w' => ∃ a0, a' = actApp a0 ds ∧ Post G N c m w Q x a0 w'

theorem swp_FW (hG : CfgOk G) {ro : Option Nat} {n : Nat} {ds : List Deferred} : ∀ (cd : Code) (Q : Exit → Env → HM → Prop) (e : Env) (m : HM) (c : Con) (a : Act) (w : World), okCode G N cd = true → plainC cd = true → swp G cd Q e m → St G N c m e a w →
  cd.wpIn (FW ro) n G.P (PostF G N c m w ds Q) (actApp a ds) w
 | .skip, Q, e, m, c, a, w, _, _, h, hst => wpIn_skip ⟨a, rfl, e, m, c, h, hst, Since.refl c m w⟩
 | .label l, Q, e, m, c, a, w, _, _, h, hst => wpIn_label ⟨a, rfl, e, m, c, h, hst, Since.refl c m w⟩
 | .exit id, Q, e, m, c, a, w, _, _, h, hst => wpIn_exit ⟨a, rfl, e, m, c, h, hst, Since.refl c m w⟩
 | .ret, Q, e, m, c, a, w, _, _, h, hst => wpIn_ret ⟨a, rfl, e, m, c, h, hst, Since.refl c m w⟩
 | .region id ops draw, Q, e, m, c, a, w, hk, hpl, h, hst => by
  simp only [okCode] at hk
  simp only [swp] at h
  simp only [plainC] at hpl
  have hend : ∀ a' w', PostN G N c m w (Q .normal) .normal a' w' → PostF G N c m w ds Q .normal (actApp a' ds) w' := fun a' w' hh => ⟨a', rfl, hh.2⟩
  split at hk
  ·rename_i hd
   have hops : ∀ (i : Nat) (o : Oper), ops[i]? = some o → dstOk N o = true := fun i o ho => List.all_eq_true.1 hd o (by simpa using Array.mem_of_getElem? ho)
   cases draw with
   | false =>
    have hm : markOf G id false = none := rfl
    simp only [hm] at h
    exact wpIn_region_list (wpList_FW postN_p postN_l hend ops.toList a w hpl (aops_sound hG ops.toList e m c a w hd h hst fun e' m' c' a' w' hK hst' hs => ⟨rfl, e', m', c', hK, hst', hs⟩))
   | true =>
    simp only at hk
    have hst' : St G N c m e a { w with drawn := w.drawn + 1 } := ⟨hst.rel.drew, hst.fits, hst.size⟩
    refine wpIn_region_any hG.mixed (wpAny_FW postN_p postN_l hend hpl _ _ a _ ?_)
    cases hm : markOf G id true with
    | some l =>
     simp only [hm, Bool.and_eq_true] at hk h
     obtain ⟨hlen, hk⟩ := hk
     have hlen := Nat.eq_of_beq_eq_true hlen
     have hlex := aAny_lexS (G := G) (ops := ops) hG (K := fun e' m' => ∃ e'', EnvEq e' e'' ∧ Q .normal e'' m') (fun e1 e2 m' he hh => by
      obtain ⟨e'', h1, h2⟩ := hh; exact ⟨e'', fun t => (he t).symm.trans (h1 t), h2⟩) l (Array.replicate ops.size false) e m hk (aopsS_mono (fun e' m' hh => ⟨e', fun _ => rfl, hh⟩) h)
     rw [hlen] at hlex
     have := aAny_sound hG (N := N) hops _ _ _ _ c a _ hlex hst' (Q := PostN G N c m w (Q .normal)) (fun e' m' c' a' w' hK hst'' hs => by
      obtain ⟨e'', h1, h2⟩ := hK
      exact ⟨rfl, e'', m', c', h2, hst''.less (fun t v hv => by rw [h1 t]; exact hv), (Since.drew c m w).trans hs⟩)
     simpa using this
    | none =>
    simp only [hm, Bool.and_eq_true] at hk h
    obtain ⟨hlen, hk⟩ := hk
    have hlen := Nat.eq_of_beq_eq_true hlen
    have hseq : seqOf G id true ops.toList = pickL ops.toList (ordOf G id ops.size) := by
     unfold seqOf ordOf
     simp only
     split
     ·rw [List.range_eq_range', pickL_range _ _ _ (by simp)]; rfl
     ·rfl
    rw [hseq] at h
    rw [Bool.or_eq_true] at hk
    rcases hk with hk | hk
    case inr =>
     have := vars_sound (N := N) (Q := PostN G N c m w (Q .normal)) hG hk hlen hops (KQ := fun e' m' => ∃ e'', EnvEq e' e'' ∧ Q .normal e'' m') (aopsL_mono' (fun e' m' hh => ⟨e', fun _ => rfl, hh⟩) h) hst'
      (fun e1 e2 m' he hh => by obtain ⟨e'', h1, h2⟩ := hh; exact ⟨e'', fun t => (he t).symm.trans (h1 t), h2⟩) (fun e' m' c' a' w' hK hst'' hs => by
       obtain ⟨e'', h1, h2⟩ := hK
       exact ⟨rfl, e'', m', c', h2, hst''.less (fun t v hv => by rw [h1 t]; exact hv), (Since.drew c m w).trans hs⟩)
     exact this
    have hlex := aAny_lex (G := G) (ops := ops) hG (K := fun e' m' => ∃ e'', EnvEq e' e'' ∧ Q .normal e'' m') (fun e1 e2 m' he hh => by
     obtain ⟨e'', h1, h2⟩ := hh; exact ⟨e'', fun t => (he t).symm.trans (h1 t), h2⟩) (ordOf G id ops.size) (Array.replicate ops.size false) e m (by simpa using hk) (aopsL_mono (fun e' m' hh => ⟨e', fun _ => rfl, hh⟩) h)
    rw [hlen] at hlex
    have := aAny_sound hG (N := N) hops _ _ _ _ c a _ hlex hst' (Q := PostN G N c m w (Q .normal)) (fun e' m' c' a' w' hK hst'' hs => by
     obtain ⟨e'', h1, h2⟩ := hK
     exact ⟨rfl, e'', m', c', h2, hst''.less (fun t v hv => by rw [h1 t]; exact hv), (Since.drew c m w).trans hs⟩)
    simpa using this
  ·cases hk
 | .seq x y, Q, e, m, c, a, w, hk, hpl, h, hst => by
  simp only [okCode] at hk
  simp only [plainC, Bool.and_eq_true] at hpl
  split at hk
  ·rename_i hx
   refine wpIn_seq (wpIn_mono (swp_FW hG x _ e m c a w hx hpl.1 h hst) fun ex a' w' hp => ?_)
   obtain ⟨a0, rfl, e', m', c', hq, hst', hs⟩ := hp
   cases ex with
   | normal =>
    refine wpIn_mono (swp_FW hG y _ e' m' c' a0 w' hk hpl.2 hq hst') fun ex2 a2 w2 hp2 => ?_
    obtain ⟨a1, rfl, e2, m2, c2, hq2, hst2, hs2⟩ := hp2
    exact ⟨a1, rfl, e2, m2, c2, hq2, hst2, hs.trans hs2⟩
   | _ => exact ⟨a0, rfl, e', m', c', hq, hst', hs⟩
  ·cases hk
 | .cond cc x y, Q, e, m, c, a, w, hk, hpl, h, hst => by
  simp only [okCode] at hk
  simp only [plainC, Bool.and_eq_true] at hpl
  split at hk
  ·rename_i hx
   simp only [swp] at h
   split at h
   ·rename_i t ht
    have he := (opv_sound hst.fits ht).1
    simp only [TV.conc, Sc.conc] at he
    split at h
    ·exact wpIn_cond_true he (swp_FW hG x Q e m c a w hx hpl.1 h hst)
    ·exact wpIn_cond_false he (swp_FW hG y Q e m c a w hk hpl.2 h hst)
   ·exact h.elim
  ·cases hk
 | .block id b, Q, e, m, c, a, w, hk, hpl, h, hst => by
  simp only [okCode] at hk
  simp only [plainC] at hpl
  refine wpIn_block (wpIn_mono (swp_FW hG b _ e m c a w hk hpl h hst) fun ex a' w' hp => ?_)
  obtain ⟨a0, rfl, e', m', c', hq, hst', hs⟩ := hp
  cases ex with
  | exit i =>
   simp only [Exit.inBlock]
   by_cases hid : i = id
   ·subst hid
    simp only [if_true]
    have hb : Nat.beq i i = true := by simp
    simp only [hb] at hq
    exact ⟨a0, rfl, e', m', c', hq, hst', hs⟩
   ·have hb : Nat.beq i id = false := by
     cases hb : Nat.beq i id with
     | false => rfl
     | true => exact absurd (Nat.eq_of_beq_eq_true hb) hid
    simp only [if_neg hid]
    simp only [hb] at hq
    exact ⟨a0, rfl, e', m', c', hq, hst', hs⟩
  | _ => exact ⟨a0, rfl, e', m', c', hq, hst', hs⟩
 | .loop b, Q, e, m, c, a, w, _, hpl, _, _ => by cases hpl
 | .rangeFunc .., Q, e, m, c, a, w, _, _, h, hst => h.elim
 | .scope .., Q, e, m, c, a, w, _, _, h, hst => h.elim
 | .goto .., Q, e, m, c, a, w, _, _, h, hst => h.elim
 | .refuse .., Q, e, m, c, a, w, _, _, h, hst => h.elim

theorem aop_FW (hG : CfgOk G) {ro : Option Nat} {n : Nat} {ds : List Deferred} {ops : Array Oper} {Q' : Exit → Act → World → Prop} {o : Oper} {l : List Oper} {e : Env} {m : HM} {c : Con} {a : Act} {w : World}
  (ho : notDefer o = true) (hg : o.guard = none) (hd : dstOk N o = true) (hst : St G N c m e a w)
  (h : aop G o e m fun v m' => ∀ c' a' w', St G N c' m' (putE o.dst v e) a' w' → Since c m w c' m' w' → wpListIn (FW ro) n G.P ops Q' l (actApp a' ds) w') : wpListIn (FW ro) n G.P ops Q' (o :: l) (actApp a ds) w := by
 unfold wpListIn
 rw [if_pos (by unfold Region.wanted; rw [hg])]
 refine wp_FW (Q := fun _ _ _ => False) (next := fun a' w' => wpListIn (FW ro) n G.P ops Q' l (actApp a' ds) w') ho (fun _ _ _ h => h) (fun ⟨_, _, h⟩ => h) (aop_sound hG hst.rel hst.fits h _ _ fun v m' c' w' hr hs hv hK => ?_) (fun _ _ hh => hh)
 exact hK c' _ w' (hst.step hd hr hs hv) hs

theorem run_yieldOp {P : Program} {o : Oper} {a : Act} {w : World} {l t1 t2 : Nat} {ts : Array TypeId} {v : Value} {r : Result Next} (ho : o.op = .call { callee := .value (.tmp t1), args := #[.tmp t2], argTypes := ts })
  (h1 : a.tmps.getD t1 undef = .func (.yield l) #[] #[]) (h2 : a.tmps.getD t2 undef = v) (hy : (Instr.yield l #[v]).run P w = r) : (execOp a.eval o).run P w = r := by
 simp [execOp, ho, resolve, Act.eval, h1, h2, Deferred.ofValue, invoke, hy]

theorem wp_yield {P : Program} {ro : Option Nat} {n : Nat} {o : Oper} {a : Act} {w : World} {l t1 t2 : Nat} {ts : Array TypeId} {v : Value} {r : Result Next} {next : Act → World → Prop} {Q : Exit → Act → World → Prop} (ho : o.op = .call { callee := .value (.tmp t1), args := #[.tmp t2], argTypes := ts })
  (h1 : a.tmps.getD t1 undef = .func (.yield l) #[] #[]) (h2 : a.tmps.getD t2 undef = v) (hy : (Instr.yield l #[v]).run P w = r) (h : o.uponIn (FW ro) n P a next Q r) : o.wpIn (FW ro) n P a w next Q := by
 refine ⟨fun _ _ => trivial, ?_⟩
 have hs : o.semAt ro a.eval = execOp a.eval o := Oper.semAt_eq ro _ o (fun c hc => by rw [ho] at hc; cases hc)
 show o.uponIn (FW ro) n P a next Q ((o.semAt ro a.eval).run P w)
 rw [hs, run_yieldOp ho h1 h2 hy]
 exact h

end
end Go.Hv

namespace Go.Hv
open Go.Ev Go.Ec
open Go.RowKit (Below)

section
variable {G : Cfg} {N : Nat}

theorem st0 {fn : Func} {c : Con} {m : HM} {w : World} {args : List TV} (hr : Rel G.A c m w) (hcl : ∀ v ∈ args, v.closed m.bs.length = true) :
  St G fn.ntmps c m (ienv 0 args) { tmps := (args.map (TV.conc c)).toArray ++ Array.replicate (fn.ntmps - (args.map (TV.conc c)).toArray.size) undef, defers := [] } w := by
 refine ⟨hr, ⟨fun t v hv => ?_, rfl⟩, by simp; omega⟩
 obtain ⟨j, rfl, hj⟩ := ienv_get args 0 t v hv
 simp only [Nat.zero_add]
 have hlt : j < args.length := (List.getElem?_eq_some_iff.1 hj).1
 have hv' : args[j] = v := (List.getElem?_eq_some_iff.1 hj).2
 refine ⟨?_, hcl v (List.mem_of_getElem? hj)⟩
 simp [Array.getElem?_append, hlt, hv']

theorem st_reset {G' : Cfg} {c : Con} {m : HM} {e e' : Env} {a : Act} {w W : World} (h : St G' N c m e a w) (he : ∀ p ∈ e', Ev.get e p.1 = some p.2 ∧ p.2.closed 0 = true) (hA : BaseIn G.A W) : St G N Con0 M0 e' a W := by
 refine ⟨rel0 hA, ⟨fun t v hv => ?_, h.fits.defers⟩, h.size⟩
 obtain ⟨h1, h2⟩ := he (t, v) (get_mem hv)
 refine ⟨?_, h2⟩
 rw [(h.fits.get t v h1).1]
 exact TV.conc_agree (n := 0) (fun b hb => absurd hb (Nat.not_lt_zero b)) h2

theorem grow_of_since {c c' : Con} {m m' : HM} {w w' : World} (h : Since c m w c' m' w') (hm : m.bs = []) : w.grownBy w' none :=
 ⟨h.same.os, h.same.tape, h.same.output, h.same.size, fun k hk _ => h.keep k hk (fun b x hx => by rw [hm] at hx; cases hx)⟩

theorem below_of_grow {w w' : World} {n : Nat} (h : w.grownBy w' none) (hn : n ≤ w.heap.size) : Below n w w' :=
 ⟨h.os, h.tape, h.output, h.size, fun k hk => h.block k (by omega) (fun e => by cases e)⟩

theorem abide {β : Type} {B : Nat} {J : β → World → Prop} (hJ : AbidesFrom B J) {s : β} {w w' : World} (hs : J s w) (h : w.grownBy w' none) : J s w' :=
 hJ s w w' none hs h (fun r e => by cases e)

theorem seq_FW (hG : CfgOk G) {ro : Option Nat} {n : Nat} {ds : List Deferred} {x y : Code} {e : Env} {m : HM} {c : Con} {a : Act} {w : World} {Q' : Exit → Act → World → Prop} (hk : okCode G N x = true) (hp : plainC x = true) (hst : St G N c m e a w)
  (h : swpC G x (fun x e' m' => x = .normal ∧ ∀ a' w' c', St G N c' m' e' a' w' → Since c m w c' m' w' → y.wpIn (FW ro) n G.P Q' (actApp a' ds) w') e m) : (Code.seq x y).wpIn (FW ro) n G.P Q' (actApp a ds) w := by
 refine wpIn_seq (wpIn_mono (swp_FW hG x _ e m c a w hk hp (swpC_imp x (fun _ _ _ h => h) h) hst) fun ex a' w' hh => ?_)
 obtain ⟨a0, rfl, e', m', c', ⟨rfl, hy⟩, hst', hs⟩ := hh
 exact hy a0 w' c' hst' hs

theorem end_FW (hG : CfgOk G) {ro : Option Nat} {n : Nat} {ds : List Deferred} {x : Code} {e : Env} {m : HM} {c : Con} {a : Act} {w : World} {Q' : Exit → Act → World → Prop} (hk : okCode G N x = true) (hp : plainC x = true) (hst : St G N c m e a w)
  (h : swpC G x (fun x e' m' => x = .normal ∧ ∀ a' w' c', St G N c' m' e' a' w' → Since c m w c' m' w' → Q' .normal (actApp a' ds) w') e m) : x.wpIn (FW ro) n G.P Q' (actApp a ds) w := by
 refine wpIn_mono (swp_FW hG x _ e m c a w hk hp (swpC_imp x (fun _ _ _ h => h) h) hst) fun ex a' w' hh => ?_
 obtain ⟨a0, rfl, e', m', c', ⟨rfl, hy⟩, hst', hs⟩ := hh
 exact hy a0 w' c' hst' hs

end

abbrev Pnt := { t : Int × Int × Bool // InW t.1 ∧ InW t.2.1 }
def Pnt.cells (t : Pnt) : List Sc := ptC t.1.1 t.1.2.1 t.1.2.2

def itE (l k n : Nat) (q : TV) : Env := [(7, .one (.int .i64 (k : Int))), (6, .one (.int .i64 (n : Int))), (5, q), (0, .one (.raw (.func (.yield l) #[] #[])))]

set_option maxHeartbeats 1000000 in
set_option maxRecDepth 100000 in
theorem vals1_in {A : Base} {q : Sc} {L : List Pnt} (hs : Sl A 9 (.one q) (L.map Pnt.cells)) {Bs : Nat} (hbox : bcell A ⟨Bs, 0, none⟩ (q.conc Con0)) {n₀ n : Nat} (hA : ∀ r o, A r o → r < n₀) (l : Nat) (J Jx : List Pnt → World → Prop) (W : World)
  (hn : n₀ ≤ W.heap.size) (hAW : BaseIn A W) (hJ : AbidesFrom W.heap.size J) (hJx : AbidesFrom W.heap.size Jx)
  (hY : ∀ pre x W1, J pre W1 → pre.length < L.length → YieldAt (FW none) (n - 1) PG l #[(TV.agg (Pnt.cells x)).conc Con0] W1 fun e W' =>
   (e = .returned (.bool true) ∧ J (pre ++ [x]) W' ∧ Below n₀ W1 W') ∨ (e = .returned (.bool false) ∧ Jx (pre ++ [x]) W')) (h0 : J [] W) :
  CallsIn (FW none) n PG f_slices_Values___api_Point_api_Point__1 #[.func (.yield l) #[] #[], .pointer (some ⟨Bs, 0, none⟩)] W fun e W' => (∃ v, e = .returned v) ∧ ((∃ xs, xs = L ∧ J xs W') ∨ (∃ pre, True ∧ Jx pre W')) := by
 obtain ⟨p, cap, hq, g1, g2, g3⟩ := id hs
 have hml : (L.map Pnt.cells).length = L.length := List.length_map ..
 simp only [TV.one.injEq] at hq
 subst hq
 rw [hml] at hs g1 hbox
 have hqc : (TV.one (.slice p L.length cap)).closed 0 = true := hs.stable.1 0
 generalize hR : (fun (e : Ending) (W' : World) => (∃ v, e = .returned v) ∧ ((∃ xs, xs = L ∧ J xs W') ∨ (∃ pre, True ∧ Jx pre W'))) = R
 refine callsIn_of_wp (F := FW none) h_slices_Values___api_Point_api_Point__1 rfl trivial ?_ rfl
 have hst := st0 (G := HHo A fun _ => none) (fn := F_slices_Values___api_Point_api_Point__1) (c := Con0) (m := M0) (w := W) (args := [.one (.raw (.func (.yield l) #[] #[])), .one (.ptr (some (.ext ⟨Bs, 0, none⟩)))]) (rel0 hAW) (by
  intro v hv
  simp only [List.mem_cons, List.not_mem_nil, or_false] at hv
  rcases hv with rfl | rfl <;> rfl)
 suffices key : ∀ a0 : Act, St (HHo A fun _ => none) F_slices_Values___api_Point_api_Point__1.ntmps Con0 M0 (ienv 0 [.one (.raw (.func (.yield l) #[] #[])), .one (.ptr (some (.ext ⟨Bs, 0, none⟩)))]) a0 W →
   Code.wpIn (FW none) n PG (bodyOf F_slices_Values___api_Point_api_Point__1) (bodyPost PG F_slices_Values___api_Point_api_Point__1 R) (actApp a0 []) W by exact key _ hst
 clear hst
 intro a0 hst
 have sub : ∀ {k : Nat} {E : Env}, Ev.get E 7 = some (.one (.int .i64 (k : Int))) → Ev.get E 6 = some (.one (.int .i64 (L.length : Int))) → Ev.get E 5 = some (.one (.slice p L.length cap)) → Ev.get E 0 = some (.one (.raw (.func (.yield l) #[] #[]))) →
   ∀ x ∈ itE l k L.length (.one (.slice p L.length cap)), Ev.get E x.1 = some x.2 ∧ x.2.closed 0 = true := fun h7 h6 h5 h0 x hx => by
  simp only [itE, List.mem_cons, List.not_mem_nil, or_false] at hx
  rcases hx with rfl | rfl | rfl | rfl
  ·exact ⟨h7, rfl⟩
  ·exact ⟨h6, rfl⟩
  ·exact ⟨h5, hqc⟩
  ·exact ⟨h0, rfl⟩
 refine seq_FW (gH A _) (by kernel_rfl) rfl hst ?_
 refine aops_step fun T S hT hS => ?_
 conv => whnf
 refine ⟨_, ⟨_, bcell_le (Base.le_l _ _) hbox, hqc, rfl⟩, ?_⟩
 refine hT _ _ ?_
 iterate 2 (refine aops_step fun T S hT hS => ?_; (conv => whnf); refine hT _ _ ?_)
 refine aops_end ?_
 refine ⟨rfl, fun a1 w1 c1 hst1 hs1 => ?_⟩
 have hw1 := grow_of_since hs1 rfl
 refine wpIn_block (wpIn_loop (fun a wq => ∃ k a0, k ≤ L.length ∧ a = actApp a0 [] ∧ St (HHo A fun _ => none) F_slices_Values___api_Point_api_Point__1.ntmps Con0 M0 (itE l k L.length (.one (.slice p L.length cap))) a0 wq ∧ J (L.take k) wq ∧ Below n₀ W wq)
  (fun a _ => L.length - (Go.RowKit.intOf (a.tmps.getD 7 undef)).toNat) ?start ?round)
 case start =>
  refine ⟨0, a1, Nat.zero_le _, rfl, st_reset hst1 (sub rfl rfl rfl rfl) (baseIn_keep hAW fun r hr => hw1.block r hr (fun e => by cases e)), abide hJ h0 hw1, below_of_grow hw1 hn⟩
 rintro a wq ⟨k, a2, hk, rfl, hst2, hj, hbw⟩
 have hm7 : Go.RowKit.intOf ((actApp a2 []).tmps.getD 7 undef) = (k : Int) := by
  have := (hst2.fits.get 7 _ rfl).1
  show Go.RowKit.intOf (a2.tmps.getD 7 undef) = _
  rw [this]
  rfl
 rw [hm7, Int.toNat_natCast]
 refine seq_FW (gH A _) (by kernel_rfl) rfl hst2 ?_
 refine aops_step fun T S hT hS => ?_
 conv => whnf
 refine hT _ _ ?_
 refine aops_end ?_
 refine ⟨rfl, fun a3 w3 c3 hst3 hs3 => ?_⟩
 have hw3 := grow_of_since hs3 rfl
 have e8 := (hst3.fits.get 8 _ rfl).1
 by_cases hlt : k < L.length
 ·obtain ⟨ad, rfl⟩ : ∃ ad, p = some (.ext ad) := by
   match p, g3 with
   | none, g3 =>
    have := congrArg List.length g3.1
    rw [hml] at this
    simp at this
    omega
   | some (.ext ad), _ => exact ⟨ad, rfl⟩
  have hget : (L.map Pnt.cells)[k]? = some (Pnt.cells L[k]) := by rw [List.getElem?_map, List.getElem?_eq_getElem hlt]; rfl
  have htk : L.take (k + 1) = L.take k ++ [L[k]] := List.take_succ_eq_append_getElem hlt
  generalize L[k] = pt at *
  obtain ⟨⟨x, y, b⟩, hxy⟩ := pt
  rw [show decide ((k : Int) < (L.length : Int)) = true from decide_eq_true (by omega)] at e8
  refine wpIn_seq (wpIn_cond_true e8 (wpIn_skip ?_))
  show Code.wpIn _ _ _ _ _ _ _
  refine wpIn_seq (wpIn_block ?_)
  refine seq_FW (gH A _) (by kernel_rfl) rfl hst3 ?_
  refine aops_step fun T S hT hS => ?_
  conv => whnf
  rw [dec_idx (n := L.length) hlt]
  conv => whnf
  refine hT _ _ ?_
  refine aops_step fun T S hT hS => ?_
  conv => whnf
  refine ⟨_, ERead_l (hs.agg (i := k) hget), ?_⟩
  refine hT _ _ ?_
  iterate 2 (refine aops_step fun T S hT hS => ?_; (conv => whnf); refine hT _ _ ?_)
  refine aops_end ?_
  refine ⟨rfl, fun a4 w4 c4 hst4 hs4 => ?_⟩
  refine wpIn_seq (wpIn_region_list ?_)
  refine aop_FW (gH A _) rfl rfl rfl hst4 ?_
  conv => whnf
  intro c5 a5 w5 hst5 hs5
  refine aop_FW (gH A _) rfl rfl rfl hst5 ?_
  conv => whnf
  intro c6 a6 w6 hst6 hs6
  have hs36 := hs4.trans (hs5.trans hs6)
  have hw6 := grow_of_since hs36 rfl
  have hb6 := (hbw.trans (below_of_grow hw3 (Nat.le_trans hn hbw.size))).trans (below_of_grow hw6 (Nat.le_trans hn (Nat.le_trans hbw.size hs3.same.size)))
  obtain ⟨fn, tmps, assign, body, hy, hR3⟩ := hY (L.take k) ⟨(x, y, b), hxy⟩ w6 (abide hJ (abide hJ hj hw3) hw6) (by rw [List.length_take]; omega)
  have h11 := (hst6.fits.get 11 _ rfl).1
  have h12 := (hst6.fits.get 12 _ rfl).1
  show wpListIn _ _ _ _ _ [_, _] _ _
  unfold wpListIn
  rw [if_pos (by rfl)]
  refine wp_yield (a := actApp a6 []) rfl h11 h12 hy ?_
  refine ⟨fun hh => (by cases hh), hR3.mono fun e W3 hh => ?_⟩
  rcases hh with ⟨rfl, hJ3, hk3⟩ | ⟨rfl, hJ3⟩
  ·show wpListIn _ _ _ _ _ [_] ((actApp a6 []).put _ _) _
   rw [put_app]
   have hA3 : BaseIn A W3 := fun r o hr => (hk3.block r (hA r o hr)).trans ((hb6.block r (hA r o hr)).trans (hAW r o hr))
   have hst7 := (st_reset (G := HHo A fun _ => none) hst6 (sub rfl rfl rfl rfl) hA3).step (o := { dst := some 13, op := .move (.tmp 0), type := 0, pos := "", after := #[], guard := none }) (by kernel_rfl) (v := .one (.bool true)) (rel0 hA3) (Since.refl _ _ _) rfl
   refine aop_FW (gH A _) rfl rfl rfl hst7 ?_
   conv => whnf
   intro c8 a8 w8 hst8 hs8
   have hw8 := grow_of_since hs8 rfl
   have e14 := (hst8.fits.get 14 _ rfl).1
   show Code.wpIn _ _ _ _ _ _ _
   refine wpIn_cond_false e14 (wpIn_skip ?_)
   show Code.wpIn _ _ _ _ _ _ _
   refine end_FW (gH A _) (by kernel_rfl) rfl hst8 ?_
   iterate 2 (refine aops_step fun T S hT hS => ?_; (conv => whnf); refine hT _ _ ?_)
   refine aops_end ?_
   refine ⟨rfl, fun a9 w9 c9 hst9 hs9 => ?_⟩
   have hw9 := grow_of_since hs9 rfl
   have hbs8 := hk3.trans (below_of_grow hw8 (Nat.le_trans hn (Nat.le_trans hb6.size hk3.size)))
   have hbs9 := hbs8.trans (below_of_grow hw9 (Nat.le_trans hn (Nat.le_trans hb6.size hbs8.size)))
   have hA9 : BaseIn A w9 := fun r o hr => (hbs9.block r (hA r o hr)).trans ((hb6.block r (hA r o hr)).trans (hAW r o hr))
   have e7 := (hst9.fits.get 7 _ rfl).1
   refine ⟨⟨k + 1, a9, hlt, rfl, st_reset hst9 (sub (congrArg some (tv_inc (n := L.length) hlt g1.2).symm) rfl rfl rfl) hA9, ?_, hb6.trans hbs9⟩, ?_⟩
   ·rw [htk]
    exact abide hJ (abide hJ hJ3 hw8) hw9
   ·show L.length - (Go.RowKit.intOf (a9.tmps.getD 7 undef)).toNat < _
    rw [e7, show (TV.one (wr .i64 ((k : Int) + 1))).conc c9 = .int .i64 ((k + 1 : Nat) : Int) from by rw [← tv_inc (n := L.length) hlt g1.2]; rfl]
    show L.length - ((k + 1 : Nat) : Int).toNat < _
    rw [Int.toNat_natCast]
    omega
  ·show wpListIn _ _ _ _ _ [_] ((actApp a6 []).put _ _) _
   rw [put_app]
   have hA3 : BaseIn (fun _ _ => False) W3 := fun r o hr => hr.elim
   have hst7 := (st_reset (G := HHo (fun _ _ => False) fun _ => none) hst6 (sub rfl rfl rfl rfl) hA3).step (o := { dst := some 13, op := .move (.tmp 0), type := 0, pos := "", after := #[], guard := none }) (by kernel_rfl) (v := .one (.bool false)) (rel0 hA3) (Since.refl _ _ _) rfl
   refine aop_FW (G := HHo (fun _ _ => False) fun _ => none) (gH _ _) rfl rfl rfl hst7 ?_
   conv => whnf
   intro c8 a8 w8 hst8 hs8
   have hw8 := grow_of_since hs8 rfl
   have e14 := (hst8.fits.get 14 _ rfl).1
   show Code.wpIn _ _ _ _ _ _ _
   refine wpIn_cond_true e14 (wpIn_ret ?_)
   show bodyPost PG F_slices_Values___api_Point_api_Point__1 R .ret (actApp a8 []) w8
   rw [← hR]
   exact bodyPost_ret (results_none rfl _ _ _) (by show a8.defers ++ [] = []; rw [hst8.fits.defers]; rfl) ⟨⟨_, rfl⟩, .inr ⟨_, trivial, abide hJx hJ3 hw8⟩⟩
 ·have hk' : k = L.length := by omega
  subst hk'
  rw [show decide ((L.length : Int) < (L.length : Int)) = false from decide_eq_false (by omega)] at e8
  refine wpIn_seq (wpIn_cond_false e8 (wpIn_exit ?_))
  show if (0 : Nat) = 0 then bodyPost PG F_slices_Values___api_Point_api_Point__1 R .normal (actApp a3 []) w3 else bodyPost PG F_slices_Values___api_Point_api_Point__1 R (.exit 0) (actApp a3 []) w3
  rw [if_pos rfl, ← hR]
  exact bodyPost_end (results_none rfl _ _ _) (by show a3.defers ++ [] = []; rw [hst3.fits.defers]; rfl) ⟨⟨_, rfl⟩, .inl ⟨_, rfl, by rw [← List.take_length (l := L)]; exact abide hJ hj hw3⟩⟩

theorem values_stops {A : Base} {q : Sc} {L : List Pnt} (hs : Sl A 9 (.one q) (L.map Pnt.cells)) {Bs : Nat} (hbox : bcell A ⟨Bs, 0, none⟩ (q.conc Con0)) {n₀ n : Nat} (hA : ∀ r o, A r o → r < n₀) {w : World} (hn : n₀ ≤ w.heap.size) (hAW : BaseIn A w) :
  SeqStopsK (FW none) n PG f_slices_Values___api_Point_api_Point__1 #[.pointer (some ⟨Bs, 0, none⟩)] (fun x : Pnt => #[(TV.agg x.cells).conc Con0]) (Below n₀) (fun ys => ys = L) (fun _ => True) L.length w :=
 fun l J Jx W hb hJ hJx hY h0 => vals1_in hs hbox hA l J Jx W (Nat.le_trans hn hb.size) (fun r o hr => (hb.block r (Nat.lt_of_lt_of_le (hA r o hr) hn)).trans (hAW r o hr)) hJ hJx hY h0

section
variable {G : Cfg} {N : Nat}

def CellsAt (W : World) (r : Nat) (l : List Sc) (t : TypeId) : Prop := W.heap[r]? = some (.cells (l.map (Sc.conc Con0)).toArray t (0, 0))

theorem CellsAt.lt {W : World} {r : Nat} {l : List Sc} {t : TypeId} (h : CellsAt W r l t) : r < W.heap.size := (Array.getElem?_eq_some_iff.1 h).1

theorem cellsAt_own {β : Type} (B r : Nat) (l : β → List Sc) (t : TypeId) : OwnFrom B (fun s W => CellsAt W r (l s) t) := fun s X Y row hs hg hr =>
 (hg.block r (CellsAt.lt hs) (fun e => by
  obtain ⟨_, o, ho, hc⟩ := hr r e.symm
  rw [show X.heap[r]? = _ from hs] at ho
  cases ho
  cases hc)).trans hs

theorem concs0 (c : Con) {l : List Sc} (h : closedL 0 l = true) : l.map (Sc.conc c) = l.map (Sc.conc Con0) :=
 List.map_congr_left fun s hs => Sc.conc_agree (n := 0) (fun b hb => absurd hb (Nat.not_lt_zero b)) (closedL_iff.1 h s hs)

theorem cellsAt_of {c : Con} {m : HM} {w : World} (h : Rel G.A c m w) {b : Nat} {l : List Sc} {t es : Nat} (hb : nth m.bs b = some ⟨l, t, es, false⟩) (hl : closedL 0 l = true) : CellsAt w (c.ι b) l t := by
 obtain ⟨junk, h1, h2, _⟩ := h.blk b _ hb
 rw [h2 rfl, List.append_nil, concs0 c hl] at h1
 exact h1

def con2 (r0 r1 : Nat) : Con := ⟨fun b => match b with | 0 => r0 | _ => r1, fun _ => 0⟩
def mem2 (l0 l1 : List Sc) (t0 t1 : TypeId) : HM := ⟨[some ⟨l0, t0, 0, false⟩, some ⟨l1, t1, 0, false⟩], B0⟩
abbrev BE : Base := fun _ _ => False

theorem rel2 {W : World} {r0 r1 : Nat} {l0 l1 : List Sc} {t0 t1 : TypeId} (h0 : CellsAt W r0 l0 t0) (h1 : CellsAt W r1 l1 t1) (hne : r0 ≠ r1) (c0 : closedL 0 l0 = true) (c1 : closedL 0 l1 = true) : Rel BE (con2 r0 r1) (mem2 l0 l1 t0 t1) W := by
 have cl2 : ∀ {l : List Sc}, closedL 0 l = true → closedL 2 l = true := fun h => closedL_iff.2 fun s hs => by
  have := closedL_iff.1 h s hs
  exact Sc.closed_mono (Nat.zero_le 2) this
 refine ⟨fun b x hx => ?_, fun b x hx => ?_, fun a b x y hx hy e => ?_, fun b hb => ?_, fun _ _ h => h.elim, fun _ _ h => h.elim, fun _ _ _ _ h => h, fun _ _ _ _ h => h⟩
 ·match b, hx with
  | 0, hx => cases hx; exact ⟨[], by rw [concs0 _ c0, List.append_nil]; exact h0, fun _ => rfl, fun h => by cases h⟩
  | 1, hx => cases hx; exact ⟨[], by rw [concs0 _ c1, List.append_nil]; exact h1, fun _ => rfl, fun h => by cases h⟩
  | b + 2, hx => cases hx
 ·match b, hx with
  | 0, hx => cases hx; exact cl2 c0
  | 1, hx => cases hx; exact cl2 c1
  | b + 2, hx => cases hx
 ·match a, b, hx, hy with
  | 0, 0, _, _ => rfl
  | 1, 1, _, _ => rfl
  | 0, 1, _, _ => exact absurd e hne
  | 1, 0, _, _ => exact absurd e.symm hne
  | a + 2, _, hx, _ => cases hx
  | _, b + 2, _, hy => cases hy
 ·match b, hb with
  | 0, _ => exact h0.lt
  | 1, _ => exact h1.lt
  | b + 2, hb => exact absurd hb (by show ¬ b + 2 < 2; omega)

theorem st_names {G' : Cfg} {c c' : Con} {m m' : HM} {e e' : Env} {a : Act} {w W : World} (h : St G N c m e a w) (hr : Rel G'.A c' m' W) (he : ∀ p ∈ e', ∃ v, Ev.get e p.1 = some v ∧ v.conc c = p.2.conc c' ∧ p.2.closed m'.bs.length = true) : St G' N c' m' e' a W := by
 refine ⟨hr, ⟨fun t v hv => ?_, h.fits.defers⟩, h.size⟩
 obtain ⟨u, h1, h2, h3⟩ := he (t, v) (get_mem hv)
 exact ⟨((h.fits.get t u h1).1).trans h2, h3⟩

end
end Go.Hv

namespace Go.Hv
open Go.Ev Go.Ec
open Go.RowKit (Below)

noncomputable def Pnt.pt (t : Pnt) : Pt PPn := tkn t.1.1 t.1.2.1 t.1.2.2
noncomputable def Pnt.far (t : Pnt) : KK × KK × KK := outT t.pt
noncomputable def psum (L : List Pnt) : Pt PPn := L.foldl (fun P t => add P t.pt) none
noncomputable def pF (L : List Pnt) : KK × KK × KK := L.foldl (fun T t => pl T t.far) (0, 0, 0)

theorem pF_hm : ∀ (L : List Pnt) (T : KK × KK × KK) (P : Pt PPn), On P → hm T = P → hm (L.foldl (fun T t => pl T t.far) T) = L.foldl (fun P t => add P t.pt) P ∧ On (L.foldl (fun P t => add P t.pt) P)
 | [], T, P, hP, h => ⟨h, hP⟩
 | t :: L, T, P, hP, h => by
  have h2 : On t.pt := tkn_on _ _ _
  have h1 : hm t.far = t.pt := hm_out _
  have e := hm_pl fld T t.far (by rw [h]; exact hP) (by rw [h1]; exact h2)
  rw [h, h1] at e
  have e2 := add_on fld _ _ hP h2
  rw [List.foldl_cons, List.foldl_cons]
  generalize pl T t.far = T2 at *
  generalize add P t.pt = P2 at *
  exact pF_hm L T2 P2 e2 e

theorem psum_on (L : List Pnt) : On (psum L) := (pF_hm L (0, 0, 0) none trivial (hm_z rfl)).2
theorem pF_psum (L : List Pnt) : hm (pF L) = psum L := (pF_hm L (0, 0, 0) none trivial (hm_z rfl)).1
theorem pF_snoc (L : List Pnt) (x : Pnt) : pF (L ++ [x]) = pl (pF L) x.far := by
 unfold pF
 rw [List.foldl_append, List.foldl_cons, List.foldl_nil]
theorem psum_succ (L : List Pnt) {i : Nat} (h : i < L.length) : psum (L.take (i + 1)) = add (psum (L.take i)) L[i].pt := by
 unfold psum
 rw [List.take_succ_eq_append_getElem h, List.foldl_append, List.foldl_cons, List.foldl_nil]
theorem msum_succ (L : List Trm) {i : Nat} (h : i < L.length) : msum (L.take (i + 1)) = add (msum (L.take i)) L[i].pt := by
 unfold msum
 rw [List.take_succ_eq_append_getElem h, List.foldl_append, List.foldl_cons, List.foldl_nil]

theorem run_makeFuncOp {P : Program} {o : Oper} {a : Act} {w : World} {g t1 : Nat} (ho : o.op = .makeFunc (.func g) #[] #[.tmp t1]) :
  (execOp a.eval o).run P w = .ok (.value (.func (.func g) #[] #[a.tmps.getD t1 undef])) w := by
 simp [execOp, ho, Act.eval, Instr.makeFunc]

theorem wp_val {P : Program} {ro : Option Nat} {n : Nat} {o : Oper} {a : Act} {w : World} {v : Value} {next : Act → World → Prop} {Q : Exit → Act → World → Prop} (ho : notDefer o = true)
  (hr : (execOp a.eval o).run P w = .ok (.value v) w) (h : next (a.put o.dst v) w) : o.wpIn (FW ro) n P a w next Q := by
 refine ⟨fun _ _ => trivial, ?_⟩
 have hs : o.semAt ro a.eval = execOp a.eval o := Oper.semAt_eq ro _ o (fun c hc => by simp [notDefer, hc] at ho)
 show o.uponIn (FW ro) n P a next Q ((o.semAt ro a.eval).run P w)
 rw [hs, hr]
 exact h

set_option maxHeartbeats 1000000 in
set_option maxRecDepth 100000 in
theorem slValues_hc {A : Base} {q : Sc} (hq : q.closed 0 = true) : HC PG A f_slices_Values___api_Point_api_Point_ [.one q] fun v N => ∃ r, v = .one (.raw (.func (.func f_slices_Values___api_Point_api_Point__1) #[] #[.pointer (some ⟨r, 0, none⟩)])) ∧ bcell N ⟨r, 0, none⟩ (q.conc Con0) := by
 refine ⟨enters_of h_slices_Values___api_Point_api_Point_ rfl rfl, fun w hw => ?_⟩
 generalize hR : (fun (e : Ending) (w' : World) => ∃ v N, e = .returned (v.conc Con0) ∧ v.closed 0 = true ∧
  BaseIn N w' ∧ (∀ r o, N r o → w.heap.size ≤ r) ∧ Same w w' ∧ (∀ r, r < w.heap.size → w'.heap[r]? = w.heap[r]?) ∧ ∃ r, v = TV.one (.raw (.func (.func f_slices_Values___api_Point_api_Point__1) #[] #[.pointer (some ⟨r, 0, none⟩)])) ∧ bcell N ⟨r, 0, none⟩ (q.conc Con0)) = R
 refine (callsIn_wide (n := 1)).1 (callsIn_of_wp (F := FW none) h_slices_Values___api_Point_api_Point_ rfl trivial ?_ rfl)
 have hst := st0 (G := HHo A fun _ => none) (fn := F_slices_Values___api_Point_api_Point_) (c := Con0) (m := M0) (w := w) (args := [.one q]) (rel0 hw) (by
  intro v hv
  simp only [List.mem_singleton] at hv
  subst hv
  exact hq)
 suffices key : ∀ a0 : Act, St (HHo A fun _ => none) F_slices_Values___api_Point_api_Point_.ntmps Con0 M0 (ienv 0 [.one q]) a0 w →
   Code.wpIn (FW none) 1 PG (bodyOf F_slices_Values___api_Point_api_Point_) (bodyPost PG F_slices_Values___api_Point_api_Point_ R) (actApp a0 []) w by exact key _ hst
 clear hst
 intro a0 hst
 refine seq_FW (gH A _) (by kernel_rfl) rfl hst ?_
 iterate 2 (refine aops_step fun T S hT hS => ?_; (conv => whnf); refine hT _ _ ?_)
 refine aops_end ?_
 refine ⟨rfl, fun a1 w1 c1 hst1 hs1 => ?_⟩
 have h1 := (hst1.fits.get 1 _ rfl).1
 have hblk := hst1.rel.blk 0 _ rfl
 obtain ⟨junk, hb1, hb2, _⟩ := hblk
 rw [hb2 rfl, List.append_nil] at hb1
 have hfr := hs1.fresh 0 _ rfl (Nat.zero_le _)
 have hfr : w.heap.size ≤ c1.ι 0 := by
  rcases hfr with h | ⟨d, y, hd, _⟩
  ·exact h
  ·cases d <;> cases hd
 refine wpIn_seq (wpIn_region_list ?_)
 show wpListIn _ _ _ _ _ [_, _] _ _
 unfold wpListIn
 rw [if_pos (by rfl)]
 refine wp_val (a := actApp a1 []) rfl (run_makeFuncOp rfl) ?_
 rw [show (actApp a1 []).tmps.getD 1 undef = _ from h1]
 show wpListIn _ _ _ _ _ [_] ((actApp a1 []).put _ _) _
 rw [put_app]
 have hst2 := hst1.step (o := { dst := some 3, op := .move (.tmp 0), type := 0, pos := "", after := #[], guard := none }) (by kernel_rfl) (v := .one (.raw (.func (.func f_slices_Values___api_Point_api_Point__1) #[] #[.pointer (some ⟨c1.ι 0, 0, none⟩)]))) hst1.rel (Since.refl _ _ _) rfl
 refine aop_FW (G := HHo A fun _ => none) (gH A _) rfl rfl rfl hst2 ?_
 conv => whnf
 intro c3 a3 w3 hst3 hs3
 have hs := hs1.trans hs3
 have hw3 := hs3.keep (c1.ι 0)
 have h3 := (hst3.fits.get 2 _ rfl).1
 refine wpIn_ret ?_
 show bodyPost PG F_slices_Values___api_Point_api_Point_ R .ret (actApp a3 []) w3
 refine bodyPost_ret (results_tmp rfl _ _ _) (by show a3.defers ++ [] = []; rw [hst3.fits.defers]; rfl) ?_
 show R (.returned (a3.tmps.getD 2 undef)) w3
 rw [h3, ← hR]
 obtain ⟨junk3, hb31, hb32, _⟩ := hst3.rel.blk 0 _ rfl
 rw [hb32 rfl, List.append_nil, (hs3.agree 0 Nat.zero_lt_one).1] at hb31
 refine ⟨_, fun r o => r = c1.ι 0 ∧ w3.heap[r]? = some o, rfl, rfl, fun r o h => h.2, fun r o h => by rw [h.1]; exact hfr, hs.same, fun r hr => hs.keep r hr (fun b x hx => by cases b <;> cases hx), c1.ι 0, rfl, ⟨_, _, _, ⟨rfl, hb31⟩, rfl, ?_⟩⟩
 have : q.conc c3 = q.conc Con0 := Sc.conc_agree (n := 0) (fun b hb => absurd hb (Nat.not_lt_zero b)) hq
 rw [← this]
 rfl

end Go.Hv

namespace Go.Hv
open Go.Ev Go.Ec
open Go.RowKit (Below)

theorem ends_M {F : Fence} {n : Nat} {P : Program} {fn : Func} {R : Ending → World → Prop} {a : Act} {w w' : World} {D : Nat} (hd : a.defers = [{ target := .collected D, args := #[] }]) (hK : w.heap[D]? = some (.deferred (some [])))
  (hw : w.putObj D (.deferred none) = w') {v : Value} (hr : (results fn a.tmps).run P w' = .ok v w') (hR : R (.returned v) w') : bodyPostM F n P fn R .ret a w := by
 show LeavesInM F n P fn a.tmps R a.defers .returning w
 rw [hd]
 refine ⟨by simp, .inl ⟨_, _, rfl, run_takeDeferred hK, ?_⟩⟩
 rw [hw]
 exact ⟨v, hr, hR⟩

theorem act_nil (a : Act) : actApp a [] = a := by simp [actApp]

set_option maxHeartbeats 2000000 in
set_option maxRecDepth 100000 in
theorem cSum_hc {A : Base} {q : Sc} {L : List Pnt} (hs : Sl A 9 (.one q) (L.map Pnt.cells)) {Bs : Nat} (hbox : bcell A ⟨Bs, 0, none⟩ (q.conc Con0)) :
  HC PG A f_curve_Sum [.one (.raw (.func (.func f_slices_Values___api_Point_api_Point__1) #[] #[.pointer (some ⟨Bs, 0, none⟩)]))] fun v _ => v = ptOf (psum L) := by
 refine ⟨enters_of h_curve_Sum rfl rfl, fun w hw => ?_⟩
 generalize hR : (fun (e : Ending) (w' : World) => ∃ v N, e = .returned (v.conc Con0) ∧ v.closed 0 = true ∧
  BaseIn N w' ∧ (∀ r o, N r o → w.heap.size ≤ r) ∧ Same w w' ∧ (∀ r, r < w.heap.size → w'.heap[r]? = w.heap[r]?) ∧ v = ptOf (psum L)) = R
 have hAlt : ∀ r o, A r o → r < w.heap.size := fun r o hr => (Array.getElem?_eq_some_iff.1 (hw r o hr)).1
 refine (callsIn_wide (n := 3)).1 (callsIn_of_wp_marks (F := FW none) h_curve_Sum rfl trivial ?_ rfl)
 have hst := st0 (G := HHo A fun _ => none) (fn := F_curve_Sum) (c := Con0) (m := M0) (w := w) (args := [.one (.raw (.func (.func f_slices_Values___api_Point_api_Point__1) #[] #[.pointer (some ⟨Bs, 0, none⟩)]))]) (rel0 hw) (by
  intro v hv
  simp only [List.mem_singleton] at hv
  subst hv
  rfl)
 suffices key : ∀ a0 : Act, St (HHo A fun _ => none) F_curve_Sum.ntmps Con0 M0 (ienv 0 [.one (.raw (.func (.func f_slices_Values___api_Point_api_Point__1) #[] #[.pointer (some ⟨Bs, 0, none⟩)]))]) a0 w →
   Code.wpIn (FW none) 3 PG (bodyOf F_curve_Sum) (bodyPostM (FW none) 3 PG F_curve_Sum R) (actApp a0 []) w by exact key _ hst
 clear hst
 intro a0 hst
 refine seq_FW (gH A _) (by kernel_rfl) rfl hst ?_
 refine aops_step fun T S hT hS => ?_
 conv => whnf
 refine hT _ _ ?_
 refine aops_end ?_
 refine ⟨rfl, fun a1 w1 c1 hst1 hs1 => ?_⟩
 refine seq_FW (gH A _) (by kernel_rfl) rfl hst1 ?_
 refine aops_step fun T S hT hS => ?_
 conv => whnf
 refine hT _ _ ?_
 refine aops_end ?_
 refine ⟨rfl, fun a2 w2 c2 hst2 hs2 => ?_⟩
 refine wpIn_seq ?_
 refine seq_FW (gH A _) (by kernel_rfl) rfl hst2 ?_
 refine aops_step fun T S hT hS => ?_
 conv => whnf
 refine hT _ _ ?_
 refine aops_end ?_
 refine ⟨rfl, fun a3 w3 c3 hst3 hs3 => ?_⟩
 have hs13 := hs1.trans (hs2.trans hs3)
 have hgr := grow_of_since hs13 rfl
 have hB3 : Below w.heap.size w w3 := below_of_grow hgr (Nat.le_refl _)
 have fresh : ∀ b x, nth _ b = some x → w.heap.size ≤ c3.ι b := fun b x hx => by
  rcases hs13.fresh b x hx (Nat.zero_le _) with h | ⟨d, y, hd, _⟩
  ·exact h
  ·cases d <;> cases hd
 have f0 := fresh 0 _ rfl
 have f1 := fresh 1 _ rfl
 have i0 : CellsAt w3 (c3.ι 0) (ptC 0 0 false) t_api_Point := cellsAt_of (G := HHo A fun _ => none) hst3.rel (b := 0) (es := 0) rfl rfl
 have i1 : CellsAt w3 (c3.ι 1) (farT (pF [])) t_curve_far := cellsAt_of (G := HHo A fun _ => none) hst3.rel (b := 1) (es := 0) (by
  show _ = some (⟨farT (0, 0, 0), _, _, _⟩ : Blk)
  rw [farT_zero]
  rfl) rfl
 have hne : c3.ι 0 ≠ c3.ι 1 := fun e => absurd (hst3.rel.inj 0 1 _ _ rfl rfl e) (by decide)
 have g2 := hst3.fits.get 2 _ rfl
 have g3 := (hst3.fits.get 3 _ rfl).1
 have g5 := (hst3.fits.get 5 _ rfl).1
 have hA3 : BaseIn A w3 := hst3.rel.baseA
 have hI : OwnFrom w3.heap.size (fun (pre : List Pnt) W => CellsAt W (c3.ι 0) (ptC 0 0 false) t_api_Point ∧ CellsAt W (c3.ι 1) (farT (pF pre)) t_curve_far ∧ Below w.heap.size w3 W) :=
  OwnFrom.and (cellsAt_own _ _ (fun _ => ptC 0 0 false) _) (OwnFrom.and (cellsAt_own _ _ (fun pre => farT (pF pre)) _) (ownFrom_below hB3.size hB3.size))
 have hl0 := i0.lt
 have hl1 := i1.lt
 refine wpIn_block ?_
 refine wpIn_rangeFunc_ownH (F := FW none) (w := w3) rfl (by decide) (gf := f_slices_Values___api_Point_api_Point__1) (lb := #[.pointer (some ⟨Bs, 0, none⟩)]) g5 trivial (enters_of h_slices_Values___api_Point_api_Point__1 rfl rfl) (values_stops hs hbox hAlt hB3.size hA3) belowK_t (belowK_b hB3.size) (Below.refl _ _) (fun _ => rfl)
  (fun pre W => CellsAt W (c3.ι 0) (ptC 0 0 false) t_api_Point ∧ CellsAt W (c3.ι 1) (farT (pF pre)) t_curve_far ∧ Below w.heap.size w3 W) (fun _ _ _ => False) hI (fun _ _ _ _ _ h _ _ => h) ⟨i0, i1, Below.refl _ _⟩
  (fun x a' W => ∃ Bx W1, w3.heap.size ≤ Bx ∧ CellsAt W Bx x.cells t_api_Point ∧ St (HHo BE fun _ => none) F_curve_Sum.ntmps Con0 M0 [(4, .one (.ptr (some (.ext ⟨Bx, 0, none⟩)))), (3, .one (.ptr (some (.ext ⟨c3.ι 1, 0, none⟩))))] a' W1) ?hAx ?assign ?body ?done ?stop
 case hAx =>
  rintro x a' _ X Y row ⟨Bx, W1, h1, h2, h3⟩ hg hr
  exact ⟨Bx, W1, h1, cellsAt_own _ Bx (fun _ : Unit => x.cells) _ () X Y row h2 hg hr, h3⟩
 case assign =>
  intro l pre x W K hIW hK
  have hAW : BaseIn A W := fun r o hr => (hIW.2.2.block r (hAlt r o hr)).trans (hA3 r o hr)
  have hstA : St (HHo A fun _ => none) F_curve_Sum.ntmps Con0 M0 [(3, .one (.ptr (some (.ext ⟨c3.ι 1, 0, none⟩))))] a3 W := st_names hst3 (rel0 hAW) (by
   intro p hp
   simp only [List.mem_singleton] at hp
   subst hp
   exact ⟨_, rfl, rfl, rfl⟩)
  have hstB := hstA.step (o := { dst := some 6, op := .move (.tmp 0), type := 0, pos := "", after := #[], guard := none }) (by kernel_rfl) (v := .agg x.cells) (rel0 hAW) (Since.refl _ _ _) rfl
  have ea : ({ tmps := (#[6].zip #[(TV.agg x.cells).conc Con0]).foldl (fun t (p, v) => t.setIfInBounds p v) (actApp a3 []).tmps, defers := [] } : Act) = actApp (a3.put (some 6) ((TV.agg x.cells).conc Con0)) [] := by
   have := hst3.fits.defers
   simp [actApp, Act.put, this]
  rw [ea]
  refine end_FW (gH A _) (by kernel_rfl) rfl hstB ?_
  iterate 2 (refine aops_step fun T S hT hS => ?_; (conv => whnf); refine hT _ _ ?_)
  refine aops_end ?_
  refine ⟨rfl, fun a4 w4 c4 hst4 hs4 => ?_⟩
  have hg4 := grow_of_since hs4 rfl
  have f4 : W.heap.size ≤ c4.ι 0 := by
   rcases hs4.fresh 0 _ rfl (Nat.zero_le _) with h | ⟨d, y, hd, _⟩
   ·exact h
   ·cases d <;> cases hd
  show K (actApp a4 []) w4
  rw [act_nil]
  refine hK _ _ (KeepsFrom.of_grownBy hg4 (fun _ e => by cases e)) (below_of_grow hg4 (Nat.le_trans hB3.size hIW.2.2.size)) (hI pre W _ none hIW hg4 (fun r e => by cases e)) ⟨c4.ι 0, w4, Nat.le_trans hIW.2.2.size f4, cellsAt_of (G := HHo A fun _ => none) hst4.rel (b := 0) (es := 0) rfl rfl, st_names hst4 (rel0 (fun _ _ h => h.elim)) (by
   intro p hp
   simp only [List.mem_cons, List.not_mem_nil, or_false] at hp
   rcases hp with rfl | rfl
   ·exact ⟨_, rfl, rfl, rfl⟩
   ·exact ⟨_, rfl, rfl, rfl⟩)⟩
 case body =>
  rintro l pre x a' W hl _ ⟨h0, h1, hB⟩ ⟨Bx, W1, hBx, hcx, hstx⟩ hlen
  have hne1 : c3.ι 1 ≠ Bx := by omega
  have hst5 : St (HHo BE fun _ => none) F_curve_Sum.ntmps (con2 (c3.ι 1) Bx) (mem2 (farT (pF pre)) x.cells t_curve_far t_api_Point) [(4, .one (.ptr (some (.loc 1 0)))), (3, .one (.ptr (some (.loc 0 0))))] a' W := st_names hstx (rel2 h1 hcx hne1 rfl rfl) (by
   intro p hp
   simp only [List.mem_cons, List.not_mem_nil, or_false] at hp
   rcases hp with rfl | rfl
   ·exact ⟨_, rfl, rfl, rfl⟩
   ·exact ⟨_, rfl, rfl, rfl⟩)
  obtain ⟨⟨x1, y1, b1⟩, ix, iy⟩ := x
  have k1 := out_fn (b := b1) ix iy
  have k2 := plus_fn (pF pre) (Pnt.far ⟨(x1, y1, b1), ix, iy⟩)
  rw [← pF_snoc] at k2
  have k1 : Ev.Fn PG f_curve_out [ptV x1 y1 b1] (farV (Pnt.far ⟨(x1, y1, b1), ix, iy⟩)) := k1
  have hfin : ∀ T : KK × KK × KK, closedL 0 (farT T) = true := fun _ => rfl
  rw [← act_nil a']
  refine wpIn_block ?_
  refine end_FW (gH BE _) (by kernel_rfl) rfl hst5 ?_
  generalize hT : pF pre = T at *
  generalize hU : Pnt.far ⟨(x1, y1, b1), ix, iy⟩ = U at *
  generalize hV : pF (pre ++ [⟨(x1, y1, b1), ix, iy⟩]) = V at *
  iterate 2 (refine aops_step fun T S hT hS => ?_; (conv => whnf); refine hT _ _ ?_)
  refine aops_step fun T S hT hS => ?_
  conv => whnf
  refine ⟨_, k1, rfl, ?_⟩
  refine hT _ _ ?_
  refine aops_step fun T S hT hS => ?_
  conv => whnf
  refine ⟨_, k2, rfl, ?_⟩
  refine hT _ _ ?_
  refine aops_step fun T S hT hS => ?_
  conv => whnf
  refine hT _ _ ?_
  refine aops_end ?_
  refine ⟨rfl, fun a6 w6 c6 hst6 hs6 => ?_⟩
  have other : ∀ k, k < W.heap.size → k ≠ c3.ι 1 → k ≠ Bx → w6.heap[k]? = W.heap[k]? := fun k hk n1 n2 => hs6.keep k hk (fun b y hy => by
   match b, hy with
   | 0, _ => exact fun e => n1 e.symm
   | 1, _ => exact fun e => n2 e.symm
   | b + 2, hy => cases hy)
  have hBW : Below w.heap.size W w6 := ⟨hs6.same.os, hs6.same.tape, hs6.same.output, hs6.same.size, fun k hk => other k (Nat.lt_of_lt_of_le hk (Nat.le_trans hB3.size hB.size)) (by omega) (by have := hB3.size; omega)⟩
  have hc1 : CellsAt w6 (c6.ι 0) (farT V) t_curve_far := cellsAt_of (G := HHo BE fun _ => none) hst6.rel (b := 0) (es := 0) rfl rfl
  rw [(hs6.agree 0 (by show 0 < 2; omega)).1] at hc1
  refine ⟨⟨hs6.same.size, fun k o hk ho hc => (other k (Array.getElem?_eq_some_iff.1 ho).1 (by omega) (fun e => ?_)).trans ho⟩, hBW, (other _ h0.lt hne (by omega)).trans h0, ?_, hB.trans hBW⟩
  ·rw [e, show W.heap[Bx]? = _ from hcx] at ho
   cases ho
   cases hc
  ·rw [hV]
   exact hc1
 case done =>
  rintro D xs W hD rfl ⟨h0, h1, hB⟩ hK
  have hst5 : St (HHo BE fun _ => none) F_curve_Sum.ntmps (con2 (c3.ι 0) (c3.ι 1)) (mem2 (ptC 0 0 false) (farT (pF xs)) t_api_Point t_curve_far) [(3, .one (.ptr (some (.loc 1 0)))), (2, .one (.ptr (some (.loc 0 0))))] a3 W := st_names hst3 (rel2 h0 h1 hne rfl rfl) (by
   intro p hp
   simp only [List.mem_cons, List.not_mem_nil, or_false] at hp
   rcases hp with rfl | rfl
   ·exact ⟨_, rfl, rfl, rfl⟩
   ·exact ⟨_, rfl, rfl, rfl⟩)
  show Code.wpIn (FW none) 3 PG _ _ ({ actApp a3 [] with defers := { target := .collected D, args := #[] } :: (actApp a3 []).defers } : Act) W
  rw [show ({ actApp a3 [] with defers := { target := .collected D, args := #[] } :: (actApp a3 []).defers } : Act) = actApp a3 [{ target := .collected D, args := #[] }] from by simp [actApp, hst3.fits.defers]]
  have ch := home_fn (pF xs)
  rw [pF_psum] at ch
  obtain ⟨px, py, pb, ipx, ipy, ep, _, _⟩ := pt_nm (psum xs) (psum_on xs)
  rw [ep] at ch hR
  refine seq_FW (gH BE _) (by kernel_rfl) rfl hst5 ?_
  generalize hT : pF xs = TT at *
  refine aops_step fun T S hT hS => ?_
  conv => whnf
  refine hT _ _ ?_
  refine aops_step fun T S hT hS => ?_
  conv => whnf
  refine ⟨_, ch, rfl, ?_⟩
  refine hT _ _ ?_
  refine aops_step fun T S hT hS => ?_
  conv => whnf
  refine hT _ _ ?_
  refine aops_end ?_
  refine ⟨rfl, fun a6 w6 c6 hst6 hs6 => ?_⟩
  refine wpIn_ret ?_
  have hgo : ∀ k, k < W.heap.size → k ≠ c3.ι 0 → k ≠ c3.ι 1 → w6.heap[k]? = W.heap[k]? := fun k hk n1 n2 => hs6.keep k hk (fun b y hy => by
   match b, hy with
   | 0, _ => exact fun e => n1 e.symm
   | 1, _ => exact fun e => n2 e.symm
   | b + 2, hy => cases hy)
  have hlD := (Array.getElem?_eq_some_iff.1 hK).1
  have hK6 : w6.heap[D]? = some (.deferred (some [])) := (hgo D hlD (by omega) (by omega)).trans hK
  have hc0 : CellsAt w6 (c6.ι 0) (ptC px py pb) t_api_Point := cellsAt_of (G := HHo BE fun _ => none) hst6.rel (b := 0) (es := 0) rfl rfl
  rw [(hs6.agree 0 (by show 0 < 2; omega)).1] at hc0
  have hput : ∀ k, k ≠ D → (w6.putObj D (.deferred none)).heap[k]? = w6.heap[k]? := fun k hk => World.putObj_heap_other (by omega)
  have hc7 : CellsAt (w6.putObj D (.deferred none)) (c3.ι 0) (ptC px py pb) t_api_Point := (hput _ (by omega)).trans hc0
  have hc1 : CellsAt w6 (c6.ι 1) (farT TT) t_curve_far := cellsAt_of (G := HHo BE fun _ => none) hst6.rel (b := 1) (es := 0) rfl rfl
  rw [(hs6.agree 1 (by show 1 < 2; omega)).1] at hc1
  have hc8 : CellsAt (w6.putObj D (.deferred none)) (c3.ι 1) (farT TT) t_curve_far := (hput _ (by omega)).trans hc1
  have hst8 : St (HHo BE fun _ => none) F_curve_Sum.ntmps (con2 (c3.ι 0) (c3.ι 1)) (mem2 (ptC px py pb) (farT TT) t_api_Point t_curve_far) [(2, .one (.ptr (some (.loc 0 0))))] a6 (w6.putObj D (.deferred none)) := st_names hst6 (rel2 hc7 hc8 hne rfl rfl) (by
   intro p hp
   simp only [List.mem_singleton] at hp
   subst hp
   exact ⟨_, rfl, by show Value.pointer (some ⟨c6.ι 0, 0, none⟩) = _; rw [(hs6.agree 0 (by show 0 < 2; omega)).1]; rfl, rfl⟩)
  obtain ⟨l, hl, hrun, _⟩ := ares_sound (gH BE _) hst8 F_curve_Sum.results.toList (fun l => outV l = ptV px py pb) (by
   conv => whnf
   rfl)
  have hBW : Below w.heap.size W w6 := ⟨hs6.same.os, hs6.same.tape, hs6.same.output, hs6.same.size, fun k hk => hgo k (Nat.lt_of_lt_of_le hk (Nat.le_trans hB3.size hB.size)) (by omega) (by omega)⟩
  have hBD : Below w.heap.size w6 (w6.putObj D (.deferred none)) := belowK_b (w := w3) hB3.size _ _ _ _ hD hK6 rfl rfl
  have hall := hB3.trans (hB.trans (hBW.trans hBD))
  refine ends_M (by show a6.defers ++ _ = _; rw [hst6.fits.defers]; rfl) hK6 rfl (results_run (G := (⟨PG, default, [], fun _ => none, fun _ => true⟩ : Ev.Cfg)) hrun) ?_
  rw [← hR, hl]
  exact ⟨ptV px py pb, BE, rfl, rfl, fun _ _ h => h.elim, fun _ _ h => h.elim, ⟨hall.size, hall.os, hall.tape, hall.output⟩, fun r hr => hall.block r hr, rfl⟩
 case stop =>
  rintro D c pre W _ _ h _
  exact h.elim

end Go.Hv

namespace Go.Hv
open Go.Ev Go.Ec

theorem Sl.sub {B : Base} {es : Nat} {a : Addr} {n cap : Nat} {L : List (List Sc)} (h : Sl B es (.one (.slice (some (.ext a)) n cap)) L) {i : Nat} {pre x post : List Sc} (hi : L[i]? = some (pre ++ (x ++ post))) :
  ERead B true x.length (a.add (i * es + pre.length)) (.agg x) := by
 obtain ⟨p, cap', h1, h2, h3, h4⟩ := h
 simp only [TV.one.injEq, Sc.slice.injEq] at h1
 obtain ⟨rfl, _, _⟩ := h1
 have hx := h3 _ (List.mem_of_getElem? hi)
 refine ⟨x, rfl, fun j s hj => ?_, closedL_iff.2 fun s hs => closedL_iff.1 hx.2 s (by simp [hs]), rfl⟩
 have hj2 : (pre ++ (x ++ post))[pre.length + j]? = some s := by
  rw [List.getElem?_append_right (by omega), Nat.add_sub_cancel_left, List.getElem?_append_left (List.getElem?_eq_some_iff.1 hj).1]
  exact hj
 rw [addr_add_add a h4.1, Nat.add_assoc]
 exact h4.2 i _ (pre.length + j) s hi hj2

theorem Sl.sub2 {B : Base} {es : Nat} {a : Addr} {n cap : Nat} {L : List (List Sc)} (h : Sl B es (.one (.slice (some (.ext a)) n cap)) L) {i : Nat} {pre x post : List Sc} (hi : L[i]? = some (pre ++ (x ++ post))) :
  ERead B true x.length ((a.add (i * es)).add pre.length) (.agg x) := by
 have h1 := h.sub hi
 obtain ⟨p, cap', h1', h2, h3, h4⟩ := h
 simp only [TV.one.injEq, Sc.slice.injEq] at h1'
 obtain ⟨rfl, _, _⟩ := h1'
 rw [addr_add_add a h4.1]
 exact h1

def RsE (q : TV) (i : Nat) : Env := [(4, .one (.int .i64 (i : Int))), (3, .one (.ptr (some (.loc 1 0)))), (2, .one (.ptr (some (.loc 0 0)))), (0, q)]

def RsI (S : Nat → Pt PPn) (n : Nat) (q : TV) (k : Nat) (e : Env) (m : HM) : Prop :=
 ∃ (i t0 t1 : Nat) (N : Base) (px py : Int) (pb : Bool), i ≤ n ∧ k = n - i ∧ InW px ∧ InW py ∧ tkn px py pb = S i ∧ ptOf (S i) = ptV px py pb ∧ e = RsE q i ∧
  m = ⟨[some ⟨ptC 0 0 false, t0, 0, false⟩, some ⟨ptC px py pb, t1, 0, false⟩], N⟩

def eqPt (x y : Int) (b : Bool) (x' y' : Int) (b' : Bool) : Bool := decide (x = x') && (decide (y = y') && ((b == b') && true))

theorem vals_ne (q : Sc) : ∃ (v : TV) (N : Base), v.closed 0 = true ∧ ∃ r, v = TV.one (.raw (.func (.func f_slices_Values___api_Point_api_Point__1) #[] #[.pointer (some ⟨r, 0, none⟩)])) ∧ bcell N ⟨r, 0, none⟩ (q.conc Con0) :=
 ⟨_, fun _ o => o = .cells #[q.conc Con0] 0 (0, 0), rfl, 0, rfl, ⟨_, _, _, rfl, rfl, rfl⟩⟩

set_option maxHeartbeats 1000000 in
set_option maxRecDepth 100000 in
theorem balanced_hc {A : Base} {q r : Sc} {L M : List Pnt} (hs : Sl A 9 (.one q) (L.map Pnt.cells)) (hr : Sl A 9 (.one r) (M.map Pnt.cells)) {x y x' y' : Int} {b b' : Bool} (hx : InW x) (hy : InW y) (hx' : InW x') (hy' : InW y') (e1 : ptOf (psum L) = ptV x y b) (e2 : ptOf (psum M) = ptV x' y' b') :
  HC PG A f_commit_Balanced [.one q, .one r] fun v _ => v = .one (.bool (eqPt x y b x' y' b')) := by
 have w := peq hx hy hx' hy' ((b == b') && true)
 have k1 := @cSum_hc
 refine hc_start (fun _ => none) h_commit_Balanced rfl (by kernel_rfl) (by kernel_rfl) (closedTs_iff.2 fun v hv => by
  simp only [List.mem_cons, List.not_mem_nil, or_false] at hv
  rcases hv with rfl | rfl
  ·exact hs.stable.1 0
  ·exact hr.stable.1 0) ?_
 refine swp_cut fun K hK hR _ => ?_
 conv => whnf
 refine hK _ _ ?_
 clear hK hR
 refine swp_cut fun K hK hR _ => ?_
 refine aops_step fun T S hT hS => ?_
 conv => whnf
 refine hT _ _ ?_
 refine aops_step fun T S hT hS => ?_
 conv => whnf
 refine ⟨fun v N => ∃ r0, v = TV.one (.raw (.func (.func f_slices_Values___api_Point_api_Point__1) #[] #[.pointer (some ⟨r0, 0, none⟩)])) ∧ bcell N ⟨r0, 0, none⟩ (q.conc Con0), fun c B hB hL => by show HC PG B _ [TV.ext c _] _; rw [hs.stable.2.2 c]; exact slValues_hc (hs.stable.1 0), vals_ne q, ?_⟩
 rintro v N' _ ⟨r1, rfl, hb1⟩ N1 hN1
 refine hT _ _ ?_
 refine aops_step fun T S hT hS => ?_
 conv => whnf
 refine ⟨fun v _ => v = ptOf (psum L), fun c B hB hL => cSum_hc (hs.mono (fun r o h => hB r o (.inl h))) (bcell_le (fun r o h => hB r o (.inr (hN1 r o (.inr h)))) hb1), ⟨_, B0, ptOf_closed _, rfl⟩, ?_⟩
 rintro v N2 _ rfl N3 hN3
 rw [e1]
 refine hT _ _ ?_
 refine aops_step fun T S hT hS => ?_
 conv => whnf
 refine hT _ _ ?_
 refine aops_step fun T S hT hS => ?_
 conv => whnf
 refine ⟨fun v N => ∃ r0, v = TV.one (.raw (.func (.func f_slices_Values___api_Point_api_Point__1) #[] #[.pointer (some ⟨r0, 0, none⟩)])) ∧ bcell N ⟨r0, 0, none⟩ (r.conc Con0), fun c B hB hL => by show HC PG B _ [TV.ext c _] _; rw [hr.stable.2.2 c]; exact slValues_hc (hr.stable.1 0), vals_ne r, ?_⟩
 rintro v N4 _ ⟨r2, rfl, hb2⟩ N5 hN5
 refine hT _ _ ?_
 refine aops_step fun T S hT hS => ?_
 conv => whnf
 refine ⟨fun v _ => v = ptOf (psum M), fun c B hB hL => cSum_hc (hr.mono (fun r o h => hB r o (.inl h))) (bcell_le (fun r o h => hB r o (.inr (hN5 r o (.inr h)))) hb2), ⟨_, B0, ptOf_closed _, rfl⟩, ?_⟩
 rintro v N6 _ rfl N7 hN7
 rw [e2]
 refine hT _ _ ?_
 refine aops_step fun T S hT hS => ?_
 conv => whnf
 rw [w]
 refine hT _ _ ?_
 refine aops_step fun T S hT hS => ?_
 conv => whnf
 refine hT _ _ ?_
 refine aops_end ?_
 refine hK _ _ ?_
 clear hK hR
 conv => whnf
 intro c N8 _ _
 rfl

end Go.Hv

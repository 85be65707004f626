import Derived.Test.YtaochmekimkegaaHvR
import Derived.RangeFuncNested
import Derived.OrdersIn
import Derived.TacticsIn
namespace Go.Hv
open Go.Ev

def FW (ro : Option Nat) : Fence := { Fence.wide with round := ro }

def actApp (a : Act) (ds : List Deferred) : Act := { a with defers := a.defers ++ ds }

theorem put_app (a : Act) (ds : List Deferred) (d : Option Tmp) (v : Value) : (actApp a ds).put d v = actApp (a.put d v) ds := by cases d <;> rfl

theorem calls_FW {ro : Option Nat} {n : Nat} {P : Program} {f : FuncId} {args : Array Value} {w : World} {R : Ending → World → Prop} (h : Calls P f args w R) : CallsIn (FW ro) n P f args w R :=
 (callsIn_wide (n := n)).2 h

theorem rows_FW {ro : Option Nat} {n : Nat} {P : Program} {row : String} {args : Array Value} {w : World} {R : Value → World → Prop} (h : Rows P row args w R) : RowsIn (FW ro) n P row args w R :=
 fun c cs _ => let ⟨v, w', r, s⟩ := h c cs; ⟨v, w', r, stepsIn_wide.2 s⟩

def notDefer (o : Oper) : Bool :=
 match o.op with
 | .defer _ => false
 | _ => true

theorem wp_FW {P : Program} {ro : Option Nat} {n : Nat} {o : Oper} {a : Act} {w : World} {ds : List Deferred} {next next' : Act → World → Prop} {Q Q' : Exit → Act → World → Prop} (ho : notDefer o = true)
  (hp : ∀ c a w, ¬ Q (.panic c) a w) (hl : ¬ LetsOut Q) (h : o.wp P a w next Q) (hn : ∀ a' w', next a' w' → next' (actApp a' ds) w') : o.wpIn (FW ro) n P (actApp a ds) w next' Q' := by
 refine ⟨fun _ _ => trivial, ?_⟩
 have hs : o.semAt ro (actApp a ds).eval = execOp a.eval o := Oper.semAt_eq ro _ o (fun c hc => by simp [notDefer, hc] at ho)
 show o.uponIn (FW ro) n P (actApp a ds) next' Q' ((o.semAt ro (actApp a ds).eval).run P w)
 rw [hs]
 unfold Oper.wp at h
 generalize (execOp a.eval o).run P w = r at *
 cases r with
 | ok x w' =>
  cases x <;> simp only [Oper.upon, Oper.uponIn] at h ⊢ <;>
   first
    | (have := hn _ _ h; rw [← put_app] at this; exact this)
    | exact ⟨fun hh => (by cases hh), (calls_FW h).mono fun e w'' he => by
      cases e with
      | returned v => have := hn _ _ he; rw [← put_app] at this; exact this
      | panicked ch => exact (hp _ _ _ he).elim
      | outgrown => exact (hl he).elim⟩
    | exact ⟨fun hh => (by cases hh), (rows_FW h).mono fun v w'' he => by have := hn _ _ he; rw [← put_app] at this; exact this⟩
    | exact h.elim
 | halt x w' => cases x <;> simp only [Oper.upon, Oper.uponIn] at h ⊢ <;> first | exact (hp _ _ _ h).elim | exact h.elim

theorem wpList_FW {P : Program} {ro : Option Nat} {n : Nat} {ds : List Deferred} {ops : Array Oper} {Q Q' : Exit → Act → World → Prop}
  (hp : ∀ c a w, ¬ Q (.panic c) a w) (hl : ¬ LetsOut Q) (hQ : ∀ a' w', Q .normal a' w' → Q' .normal (actApp a' ds) w') : ∀ (l : List Oper) (a : Act) (w : World), l.all notDefer = true →
  wpList P ops Q l a w → wpListIn (FW ro) n P ops Q' l (actApp a ds) w
 | [], a, w, _, h => hQ a w h
 | o :: l, a, w, hd, h => by
  simp only [List.all_cons, Bool.and_eq_true] at hd
  unfold wpList at h
  unfold wpListIn
  by_cases hw : Region.wanted o (yielded ops a.tmps) = true
  ·rw [if_pos hw] at h
   rw [if_pos (show Region.wanted o (yielded ops (actApp a ds).tmps) = true from hw)]
   rcases h with h | ⟨_, h⟩
   ·exact wp_FW hd.1 hp hl h fun a' w' hh => wpList_FW hp hl hQ l a' w' hd.2 hh
   ·exact (hl h).elim
  ·rw [if_neg hw] at h
   rw [if_neg (show ¬ Region.wanted o (yielded ops (actApp a ds).tmps) = true from hw), put_app]
   exact ⟨fun _ _ => trivial, wpList_FW hp hl hQ l _ w hd.2 h⟩

theorem wpAny_FW {P : Program} {ro : Option Nat} {n : Nat} {ds : List Deferred} {md : Region.Mode} {ops : Array Oper} {Q Q' : Exit → Act → World → Prop}
  (hp : ∀ c a w, ¬ Q (.panic c) a w) (hl : ¬ LetsOut Q) (hQ : ∀ a' w', Q .normal a' w' → Q' .normal (actApp a' ds) w') (hd : ops.toList.all notDefer = true) : ∀ (f : Nat) (listed : Array Bool) (a : Act) (w : World),
  wpAny P md ops Q f listed a w → wpAnyIn (FW ro) n P md ops Q' f listed (actApp a ds) w
 | 0, listed, a, w, h => ⟨h.1, hQ a w h.2⟩
 | f + 1, listed, a, w, h => by
  refine ⟨fun h0 => hQ a w (h.1 h0), fun i hi => ?_⟩
  have hh := h.2 i hi
  unfold wpOp at hh
  unfold wpOpIn
  cases ho : ops[i]? with
  | none =>
   simp only [ho] at hh ⊢
   exact wpAny_FW hp hl hQ hd f _ a w hh
  | some o =>
   simp only [ho] at hh ⊢
   have hdo : notDefer o = true := List.all_eq_true.1 hd o (by simpa using Array.mem_of_getElem? ho)
   by_cases hw : Region.wanted o (yielded ops a.tmps) = true
   ·rw [if_pos hw] at hh
    rw [if_pos (show Region.wanted o (yielded ops (actApp a ds).tmps) = true from hw)]
    rcases hh with hh | ⟨_, hh⟩
    ·exact wp_FW hdo hp hl hh fun a' w' h' => wpAny_FW hp hl hQ hd f _ a' w' h'
    ·exact (hl hh).elim
   ·rw [if_neg hw] at hh
    rw [if_neg (show ¬ Region.wanted o (yielded ops (actApp a ds).tmps) = true from hw), put_app]
    exact ⟨fun _ _ => trivial, wpAny_FW hp hl hQ hd f _ _ w hh⟩

def plainC : Code → Bool
 | .region _ ops _ => ops.toList.all notDefer
 | .seq a b | .cond _ a b => plainC a && plainC b
 | .block _ b => plainC b
 | .skip | .label _ | .exit _ | .ret => true
 | _ => false

section
variable {G : Cfg} {N : Nat}

def PostN (G : Cfg) (N : Nat) (c : Con) (m : HM) (w : World) (K : Env → HM → Prop) : Exit → Act → World → Prop :=
 fun x a' w' => x = .normal ∧ ∃ e' m' c', K e' m' ∧ St G N c' m' e' a' w' ∧ Since c m w c' m' w'

theorem postN_p {c : Con} {m : HM} {w : World} {K : Env → HM → Prop} : ∀ ch a w', ¬ PostN G N c m w K (.panic ch) a w' := fun _ _ _ h => by cases h.1
theorem postN_l {c : Con} {m : HM} {w : World} {K : Env → HM → Prop} : ¬ LetsOut (PostN G N c m w K) := fun ⟨_, _, h⟩ => by cases h.1

def PostF (G : Cfg) (N : Nat) (c : Con) (m : HM) (w : World) (ds : List Deferred) (Q : Exit → Env → HM → Prop) : Exit → Act → World → Prop :=
 fun x a' w' => ∃ a0, a' = actApp a0 ds ∧ Post G N c m w Q x a0 w'

theorem swp_FW (hG : CfgOk G) {ro : Option Nat} {n : Nat} {ds : List Deferred} : ∀ (cd : Code) (Q : Exit → Env → HM → Prop) (e : Env) (m : HM) (c : Con) (a : Act) (w : World), okCode G N cd = true → plainC cd = true → swp G cd Q e m → St G N c m e a w →
  cd.wpIn (FW ro) n G.P (PostF G N c m w ds Q) (actApp a ds) w
 | .skip, Q, e, m, c, a, w, _, _, h, hst => wpIn_skip ⟨a, rfl, e, m, c, h, hst, Since.refl c m w⟩
 | .label l, Q, e, m, c, a, w, _, _, h, hst => wpIn_label ⟨a, rfl, e, m, c, h, hst, Since.refl c m w⟩
 | .exit id, Q, e, m, c, a, w, _, _, h, hst => wpIn_exit ⟨a, rfl, e, m, c, h, hst, Since.refl c m w⟩
 | .ret, Q, e, m, c, a, w, _, _, h, hst => wpIn_ret ⟨a, rfl, e, m, c, h, hst, Since.refl c m w⟩
 | .region id ops draw, Q, e, m, c, a, w, hk, hpl, h, hst => by
  simp only [okCode] at hk
  simp only [swp] at h
  simp only [plainC] at hpl
  have hend : ∀ a' w', PostN G N c m w (Q .normal) .normal a' w' → PostF G N c m w ds Q .normal (actApp a' ds) w' := fun a' w' hh => ⟨a', rfl, hh.2⟩
  split at hk
  ·rename_i hd
   have hops : ∀ (i : Nat) (o : Oper), ops[i]? = some o → dstOk N o = true := fun i o ho => List.all_eq_true.1 hd o (by simpa using Array.mem_of_getElem? ho)
   cases draw with
   | false =>
    have hm : markOf G id false = none := rfl
    simp only [hm] at h
    exact wpIn_region_list (wpList_FW postN_p postN_l hend ops.toList a w hpl (aops_sound hG ops.toList e m c a w hd h hst fun e' m' c' a' w' hK hst' hs => ⟨rfl, e', m', c', hK, hst', hs⟩))
   | true =>
    simp only at hk
    have hst' : St G N c m e a { w with drawn := w.drawn + 1 } := ⟨hst.rel.drew, hst.fits, hst.size⟩
    refine wpIn_region_any hG.mixed (wpAny_FW postN_p postN_l hend hpl _ _ a _ ?_)
    cases hm : markOf G id true with
    | some l =>
     simp only [hm, Bool.and_eq_true] at hk h
     obtain ⟨hlen, hk⟩ := hk
     have hlen := Nat.eq_of_beq_eq_true hlen
     have hlex := aAny_lexS (G := G) (ops := ops) hG (K := fun e' m' => ∃ e'', EnvEq e' e'' ∧ Q .normal e'' m') (fun e1 e2 m' he hh => by
      obtain ⟨e'', h1, h2⟩ := hh; exact ⟨e'', fun t => (he t).symm.trans (h1 t), h2⟩) l (Array.replicate ops.size false) e m hk (aopsS_mono (fun e' m' hh => ⟨e', fun _ => rfl, hh⟩) h)
     rw [hlen] at hlex
     have := aAny_sound hG (N := N) hops _ _ _ _ c a _ hlex hst' (Q := PostN G N c m w (Q .normal)) (fun e' m' c' a' w' hK hst'' hs => by
      obtain ⟨e'', h1, h2⟩ := hK
      exact ⟨rfl, e'', m', c', h2, hst''.less (fun t v hv => by rw [h1 t]; exact hv), (Since.drew c m w).trans hs⟩)
     simpa using this
    | none =>
    simp only [hm, Bool.and_eq_true] at hk h
    obtain ⟨hlen, hk⟩ := hk
    have hlen := Nat.eq_of_beq_eq_true hlen
    have hseq : seqOf G id true ops.toList = pickL ops.toList (ordOf G id ops.size) := by
     unfold seqOf ordOf
     simp only
     split
     ·rw [List.range_eq_range', pickL_range _ _ _ (by simp)]; rfl
     ·rfl
    rw [hseq] at h
    rw [Bool.or_eq_true] at hk
    rcases hk with hk | hk
    case inr =>
     have := vars_sound (N := N) (Q := PostN G N c m w (Q .normal)) hG hk hlen hops (KQ := fun e' m' => ∃ e'', EnvEq e' e'' ∧ Q .normal e'' m') (aopsL_mono' (fun e' m' hh => ⟨e', fun _ => rfl, hh⟩) h) hst'
      (fun e1 e2 m' he hh => by obtain ⟨e'', h1, h2⟩ := hh; exact ⟨e'', fun t => (he t).symm.trans (h1 t), h2⟩) (fun e' m' c' a' w' hK hst'' hs => by
       obtain ⟨e'', h1, h2⟩ := hK
       exact ⟨rfl, e'', m', c', h2, hst''.less (fun t v hv => by rw [h1 t]; exact hv), (Since.drew c m w).trans hs⟩)
     exact this
    have hlex := aAny_lex (G := G) (ops := ops) hG (K := fun e' m' => ∃ e'', EnvEq e' e'' ∧ Q .normal e'' m') (fun e1 e2 m' he hh => by
     obtain ⟨e'', h1, h2⟩ := hh; exact ⟨e'', fun t => (he t).symm.trans (h1 t), h2⟩) (ordOf G id ops.size) (Array.replicate ops.size false) e m (by simpa using hk) (aopsL_mono (fun e' m' hh => ⟨e', fun _ => rfl, hh⟩) h)
    rw [hlen] at hlex
    have := aAny_sound hG (N := N) hops _ _ _ _ c a _ hlex hst' (Q := PostN G N c m w (Q .normal)) (fun e' m' c' a' w' hK hst'' hs => by
     obtain ⟨e'', h1, h2⟩ := hK
     exact ⟨rfl, e'', m', c', h2, hst''.less (fun t v hv => by rw [h1 t]; exact hv), (Since.drew c m w).trans hs⟩)
    simpa using this
  ·cases hk
 | .seq x y, Q, e, m, c, a, w, hk, hpl, h, hst => by
  simp only [okCode] at hk
  simp only [plainC, Bool.and_eq_true] at hpl
  split at hk
  ·rename_i hx
   refine wpIn_seq (wpIn_mono (swp_FW hG x _ e m c a w hx hpl.1 h hst) fun ex a' w' hp => ?_)
   obtain ⟨a0, rfl, e', m', c', hq, hst', hs⟩ := hp
   cases ex with
   | normal =>
    refine wpIn_mono (swp_FW hG y _ e' m' c' a0 w' hk hpl.2 hq hst') fun ex2 a2 w2 hp2 => ?_
    obtain ⟨a1, rfl, e2, m2, c2, hq2, hst2, hs2⟩ := hp2
    exact ⟨a1, rfl, e2, m2, c2, hq2, hst2, hs.trans hs2⟩
   | _ => exact ⟨a0, rfl, e', m', c', hq, hst', hs⟩
  ·cases hk
 | .cond cc x y, Q, e, m, c, a, w, hk, hpl, h, hst => by
  simp only [okCode] at hk
  simp only [plainC, Bool.and_eq_true] at hpl
  split at hk
  ·rename_i hx
   simp only [swp] at h
   split at h
   ·rename_i t ht
    have he := (opv_sound hst.fits ht).1
    simp only [TV.conc, Sc.conc] at he
    split at h
    ·exact wpIn_cond_true he (swp_FW hG x Q e m c a w hx hpl.1 h hst)
    ·exact wpIn_cond_false he (swp_FW hG y Q e m c a w hk hpl.2 h hst)
   ·exact h.elim
  ·cases hk
 | .block id b, Q, e, m, c, a, w, hk, hpl, h, hst => by
  simp only [okCode] at hk
  simp only [plainC] at hpl
  refine wpIn_block (wpIn_mono (swp_FW hG b _ e m c a w hk hpl h hst) fun ex a' w' hp => ?_)
  obtain ⟨a0, rfl, e', m', c', hq, hst', hs⟩ := hp
  cases ex with
  | exit i =>
   simp only [Exit.inBlock]
   by_cases hid : i = id
   ·subst hid
    simp only [if_true]
    have hb : Nat.beq i i = true := by simp
    simp only [hb] at hq
    exact ⟨a0, rfl, e', m', c', hq, hst', hs⟩
   ·have hb : Nat.beq i id = false := by
     cases hb : Nat.beq i id with
     | false => rfl
     | true => exact absurd (Nat.eq_of_beq_eq_true hb) hid
    simp only [if_neg hid]
    simp only [hb] at hq
    exact ⟨a0, rfl, e', m', c', hq, hst', hs⟩
  | _ => exact ⟨a0, rfl, e', m', c', hq, hst', hs⟩
 | .loop b, Q, e, m, c, a, w, _, hpl, _, _ => by cases hpl
 | .rangeFunc .., Q, e, m, c, a, w, _, _, h, hst => h.elim
 | .scope .., Q, e, m, c, a, w, _, _, h, hst => h.elim
 | .goto .., Q, e, m, c, a, w, _, _, h, hst => h.elim
 | .refuse .., Q, e, m, c, a, w, _, _, h, hst => h.elim

theorem aop_FW (hG : CfgOk G) {ro : Option Nat} {n : Nat} {ds : List Deferred} {ops : Array Oper} {Q' : Exit → Act → World → Prop} {o : Oper} {l : List Oper} {e : Env} {m : HM} {c : Con} {a : Act} {w : World}
  (ho : notDefer o = true) (hg : o.guard = none) (hd : dstOk N o = true) (hst : St G N c m e a w)
  (h : aop G o e m fun v m' => ∀ c' a' w', St G N c' m' (putE o.dst v e) a' w' → Since c m w c' m' w' → wpListIn (FW ro) n G.P ops Q' l (actApp a' ds) w') : wpListIn (FW ro) n G.P ops Q' (o :: l) (actApp a ds) w := by
 unfold wpListIn
 rw [if_pos (by unfold Region.wanted; rw [hg])]
 refine wp_FW (Q := fun _ _ _ => False) (next := fun a' w' => wpListIn (FW ro) n G.P ops Q' l (actApp a' ds) w') ho (fun _ _ _ h => h) (fun ⟨_, _, h⟩ => h) (aop_sound hG hst.rel hst.fits h _ _ fun v m' c' w' hr hs hv hK => ?_) (fun _ _ hh => hh)
 exact hK c' _ w' (hst.step hd hr hs hv) hs

theorem run_yieldOp {P : Program} {o : Oper} {a : Act} {w : World} {l t1 t2 : Nat} {ts : Array TypeId} {v : Value} {r : Result Next} (ho : o.op = .call { callee := .value (.tmp t1), args := #[.tmp t2], argTypes := ts })
  (h1 : a.tmps.getD t1 undef = .func (.yield l) #[] #[]) (h2 : a.tmps.getD t2 undef = v) (hy : (Instr.yield l #[v]).run P w = r) : (execOp a.eval o).run P w = r := by
 simp [execOp, ho, resolve, Act.eval, h1, h2, Deferred.ofValue, invoke, hy]

theorem wp_yield {P : Program} {ro : Option Nat} {n : Nat} {o : Oper} {a : Act} {w : World} {l t1 t2 : Nat} {ts : Array TypeId} {v : Value} {r : Result Next} {next : Act → World → Prop} {Q : Exit → Act → World → Prop} (ho : o.op = .call { callee := .value (.tmp t1), args := #[.tmp t2], argTypes := ts })
  (h1 : a.tmps.getD t1 undef = .func (.yield l) #[] #[]) (h2 : a.tmps.getD t2 undef = v) (hy : (Instr.yield l #[v]).run P w = r) (h : o.uponIn (FW ro) n P a next Q r) : o.wpIn (FW ro) n P a w next Q := by
 refine ⟨fun _ _ => trivial, ?_⟩
 have hs : o.semAt ro a.eval = execOp a.eval o := Oper.semAt_eq ro _ o (fun c hc => by rw [ho] at hc; cases hc)
 show o.uponIn (FW ro) n P a next Q ((o.semAt ro a.eval).run P w)
 rw [hs, run_yieldOp ho h1 h2 hy]
 exact h

end
end Go.Hv

import Derived.Test.YtmappjgknpldpaaHv10
import Derived.Tactics
namespace Go.Hv
open Go.Ev

section
variable {G : Cfg} {N : Nat}

theorem St.step {c c' : Con} {m m' : HM} {e : Env} {a : Act} {w w' : World} (h : St G N c m e a w) {o : Oper} (ho : dstOk N o = true) {v : TV} (hr : Rel G.A c' m' w') (hs : Since c m w c' m' w')
    (hv : v.closed m'.bs.length = true) : St G N c' m' (putE o.dst v e) (a.put o.dst (v.conc c')) w' := by
  refine ⟨hr, ?_, by rw [put_size]; exact h.size⟩
  refine (h.fits.agree hs.agree' hs.le).put (fun t ht => ?_) hv
  simp only [dstOk, ht, blt_lt] at ho
  exact Nat.lt_of_lt_of_le ho h.size

/-- The text's order. -/
theorem aops_sound (hG : CfgOk G) {all : Array Oper} {K : Env → HM → Prop} {Q : Exit → Act → World → Prop} : ∀ (l : List Oper) (e : Env) (m : HM) (c : Con) (a : Act) (w : World),
    l.all (dstOk N) = true → aopsL G all.toList l e m K → St G N c m e a w →
    (∀ e' m' c' a' w', K e' m' → St G N c' m' e' a' w' → Since c m w c' m' w' → Q .normal a' w') → wpList G.P all Q l a w
  | [], e, m, c, a, w, _, h, hst, hQ => hQ e m c a w h hst (Since.refl c m w)
  | o :: l, e, m, c, a, w, hl, h, hst, hQ => by
    simp only [List.all_cons, Bool.and_eq_true] at hl
    simp only [aopsL] at h
    unfold wpList
    split at h
    · rename_i hw
      rw [if_pos (wantedA_sound hst.fits hw)]
      refine .inl (aop_sound hG hst.rel hst.fits h _ _ fun v m' c' w' hr hs hv hK => ?_)
      exact aops_sound hG l _ _ c' _ _ hl.2 hK (hst.step hl.1 hr hs hv) fun e' m'' c'' a' w'' hk hst' hs' => hQ e' m'' c'' a' w'' hk hst' (hs.trans hs')
    · rename_i hw
      rw [if_neg (by rw [wantedA_sound hst.fits hw]; simp)]
      exact aops_sound hG l _ _ c _ _ hl.2 h (hst.step (v := .tup []) hl.1 hst.rel (Since.refl c m w) rfl) hQ
    · exact h.elim

theorem aAny_sound (hG : CfgOk G) {ops : Array Oper} {K : Env → HM → Prop} {Q : Exit → Act → World → Prop} (hops : ∀ (i : Nat) (o : Oper), ops[i]? = some o → dstOk N o = true) :
    ∀ (f : Nat) (listed : Array Bool) (e : Env) (m : HM) (c : Con) (a : Act) (w : World), aAny G ops K f listed e m → St G N c m e a w →
    (∀ e' m' c' a' w', K e' m' → St G N c' m' e' a' w' → Since c m w c' m' w' → Q .normal a' w') → wpAny G.P .any ops Q f listed a w
  | 0, listed, e, m, c, a, w, h, hst, hQ => ⟨h.1, hQ e m c a w h.2 hst (Since.refl c m w)⟩
  | f + 1, listed, e, m, c, a, w, h, hst, hQ => by
    refine ⟨fun h0 => hQ e m c a w (h.1 h0) hst (Since.refl c m w), fun i hi => ?_⟩
    have hh := h.2 i hi
    unfold aAt at hh
    unfold wpOp
    split at hh
    · rename_i ho
      simp only [ho]
      exact aAny_sound hG hops f _ _ _ c _ _ hh hst hQ
    · rename_i o ho
      simp only [ho]
      unfold aSt at hh
      split at hh
      · rename_i hw
        rw [if_pos (wantedA_sound hst.fits hw)]
        refine .inl (aop_sound hG hst.rel hst.fits hh _ _ fun v m' c' w' hr hs hv hK => ?_)
        exact aAny_sound hG hops f _ _ _ c' _ _ hK (hst.step (hops i o ho) hr hs hv) fun e' m'' c'' a' w'' hk hst' hs' => hQ e' m'' c'' a' w'' hk hst' (hs.trans hs')
      · rename_i hw
        rw [if_neg (by rw [wantedA_sound hst.fits hw]; simp)]
        exact aAny_sound hG hops f _ _ _ c _ _ hh (hst.step (v := .tup []) (hops i o ho) hst.rel (Since.refl c m w) rfl) hQ
      · exact hh.elim

theorem St.less {c : Con} {m : HM} {e e' : Env} {a : Act} {w : World} (h : St G N c m e a w) (hle : ∀ t v, Ev.get e' t = some v → Ev.get e t = some v) : St G N c m e' a w :=
  ⟨h.rel, ⟨fun t v hv => h.fits.get t v (hle t v hv), h.fits.defers⟩, h.size⟩

theorem swp_sound (hG : CfgOk G) : ∀ (cd : Code) (Q : Exit → Env → HM → Prop) (e : Env) (m : HM) (c : Con) (a : Act) (w : World), okCode G N cd = true → swp G cd Q e m → St G N c m e a w →
    cd.wp G.P (Post G N c m w Q) a w
  | .skip, Q, e, m, c, a, w, _, h, hst => wp_skip ⟨e, m, c, h, hst, Since.refl c m w⟩
  | .label l, Q, e, m, c, a, w, _, h, hst => wp_label ⟨e, m, c, h, hst, Since.refl c m w⟩
  | .exit id, Q, e, m, c, a, w, _, h, hst => wp_exit ⟨e, m, c, h, hst, Since.refl c m w⟩
  | .ret, Q, e, m, c, a, w, _, h, hst => wp_ret ⟨e, m, c, h, hst, Since.refl c m w⟩
  | .region id ops draw, Q, e, m, c, a, w, hk, h, hst => by
    simp only [okCode] at hk
    split at hk
    · rename_i hd
      cases draw with
      | false =>
        exact wp_region_list (aops_sound hG ops.toList e m c a w hd h hst fun e' m' c' a' w' hK hst' hs => ⟨e', m', c', hK, hst', hs⟩)
      | true =>
        simp only [Bool.and_eq_true] at hk
        obtain ⟨hlen, hk⟩ := hk
        have hlen := Nat.eq_of_beq_eq_true hlen
        refine wp_region_any hG.mixed ?_
        have hops : ∀ (i : Nat) (o : Oper), ops[i]? = some o → dstOk N o = true := fun i o ho => List.all_eq_true.1 hd o (by simpa using Array.mem_of_getElem? ho)
        have hst' : St G N c m e a { w with drawn := w.drawn + 1 } := ⟨hst.rel.drew, hst.fits, hst.size⟩
        have hseq : seqOf G id true ops.toList = pickL ops.toList (ordOf G id ops.size) := by
          unfold seqOf ordOf
          simp only
          split
          · rw [List.range_eq_range', pickL_range _ _ _ (by simp)]; rfl
          · rfl
        have hlex := aAny_lex (G := G) (ops := ops) hG (K := fun e' m' => ∃ e'', EnvEq e' e'' ∧ Q .normal e'' m') (fun e1 e2 m' he hh => by
          obtain ⟨e'', h1, h2⟩ := hh; exact ⟨e'', fun t => (he t).symm.trans (h1 t), h2⟩) (ordOf G id ops.size) (Array.replicate ops.size false) e m (by simpa using hk) (by
            have mono : ∀ (l : List Oper) (e : Env) (m : HM), aopsL G ops.toList l e m (Q .normal) → aopsL G ops.toList l e m (fun e' m' => ∃ e'', EnvEq e' e'' ∧ Q .normal e'' m') := by
              intro l
              induction l with
              | nil => intro e m hh; exact ⟨e, fun _ => rfl, hh⟩
              | cons o l ih =>
                intro e m hh
                simp only [aopsL] at hh ⊢
                split at hh
                · exact aop_mono (fun v m' hx => ih _ _ hx) hh
                · exact ih _ _ hh
                · exact hh
            rw [← hseq]
            exact mono _ e m h)
        rw [hlen] at hlex
        have := aAny_sound hG (N := N) hops _ _ _ _ c a _ hlex hst' (Q := Post G N c m w Q) (fun e' m' c' a' w' hK hst'' hs => by
          obtain ⟨e'', h1, h2⟩ := hK
          exact ⟨e'', m', c', h2, hst''.less (fun t v hv => by rw [h1 t]; exact hv), (Since.drew c m w).trans hs⟩)
        simpa using this
    · cases hk
  | .seq x y, Q, e, m, c, a, w, hk, h, hst => by
    simp only [okCode] at hk
    split at hk
    · rename_i hx
      refine wp_seq (wp_mono (swp_sound hG x _ e m c a w hx h hst) fun ex a' w' hp => ?_)
      obtain ⟨e', m', c', hq, hst', hs⟩ := hp
      cases ex with
      | normal =>
        refine wp_mono (swp_sound hG y _ e' m' c' a' w' hk hq hst') fun ex2 a2 w2 hp2 => ?_
        obtain ⟨e2, m2, c2, hq2, hst2, hs2⟩ := hp2
        exact ⟨e2, m2, c2, hq2, hst2, hs.trans hs2⟩
      | _ => exact ⟨e', m', c', hq, hst', hs⟩
    · cases hk
  | .cond cc x y, Q, e, m, c, a, w, hk, h, hst => by
    simp only [okCode] at hk
    split at hk
    · rename_i hx
      simp only [swp] at h
      split at h
      · rename_i t ht
        have he := (opv_sound hst.fits ht).1
        simp only [TV.conc, Sc.conc] at he
        split at h
        · exact wp_cond_true he (swp_sound hG x Q e m c a w hx h hst)
        · exact wp_cond_false he (swp_sound hG y Q e m c a w hk h hst)
      · exact h.elim
    · cases hk
  | .block id b, Q, e, m, c, a, w, hk, h, hst => by
    simp only [okCode] at hk
    refine wp_block (wp_mono (swp_sound hG b _ e m c a w hk h hst) fun ex a' w' hp => ?_)
    obtain ⟨e', m', c', hq, hst', hs⟩ := hp
    cases ex with
    | exit i =>
      simp only [Exit.inBlock]
      by_cases hid : i = id
      · subst hid
        simp only [if_true]
        have hb : Nat.beq i i = true := by simp
        simp only [hb] at hq
        exact ⟨e', m', c', hq, hst', hs⟩
      · have hb : Nat.beq i id = false := by
          cases hb : Nat.beq i id with
          | false => rfl
          | true => exact absurd (Nat.eq_of_beq_eq_true hb) hid
        simp only [if_neg hid]
        simp only [hb] at hq
        exact ⟨e', m', c', hq, hst', hs⟩
    | _ => exact ⟨e', m', c', hq, hst', hs⟩
  | .loop b, Q, e, m, c, a, w, hk, h, hst => by
    simp only [okCode] at hk
    simp only [swp] at h
    rcases h with ⟨k, h⟩ | h
    case inr => exact h N c a w (by simpa only [okCode] using hk) hst
    refine wp_loop_k (fun k a' w' => ∃ e' m' c', loopN (swp G b) (dom e []) Q k e' m' ∧ St G N c' m' e' a' w' ∧ Since c m w c' m' w') (fun a' w' hh => ?_) (fun k a' w' hh => ?_) (k := k) ⟨e, m, c, h, hst, Since.refl c m w⟩
    · obtain ⟨e', m', c', hl, _⟩ := hh
      exact hl
    · obtain ⟨e', m', c', hl, hst', hs⟩ := hh
      simp only [loopN] at hl
      refine wp_mono (swp_sound hG b _ e' m' c' a' w' hk hl hst') fun ex a2 w2 hp => ?_
      obtain ⟨e2, m2, c2, hq, hst2, hs2⟩ := hp
      cases ex with
      | normal =>
        obtain ⟨e3, h3, hle⟩ := restr_sound (dom e []) [] (fun t v hv => by simp [Ev.get] at hv) hq
        exact ⟨e3, m2, c2, h3, hst2.less hle, hs.trans hs2⟩
      | _ => exact ⟨e2, m2, c2, hq, hst2, hs.trans hs2⟩
  | .rangeFunc .., Q, e, m, c, a, w, _, h, hst => h.elim
  | .scope .., Q, e, m, c, a, w, _, h, hst => h.elim
  | .goto .., Q, e, m, c, a, w, _, h, hst => h.elim
  | .refuse .., Q, e, m, c, a, w, _, h, hst => h.elim

/-! ## Blocks that nobody writes any more -/

def SP.fz (F : Nat → Bool) (c : Con) : SP → SP
  | .loc b o => match F b with
    | true => .ext ⟨c.ι b, o, none⟩
    | false => .loc b o
  | .ext a => .ext a

def Sc.fz (F : Nat → Bool) (c : Con) : Sc → Sc
  | .ptr (some p) => .ptr (some (SP.fz F c p))
  | .slice (some p) l k => .slice (some (SP.fz F c p)) l k
  | .buf b l => match F b with
    | true => .slice (some (.ext ⟨c.ι b, 0, none⟩)) l (c.κ b)
    | false => .buf b l
  | s => s

def fzL (F : Nat → Bool) (c : Con) : List Sc → List Sc
  | [] => []
  | s :: l => Sc.fz F c s :: fzL F c l

def TC.fz (F : Nat → Bool) (c : Con) : TC → TC
  | .one s => .one (Sc.fz F c s)
  | .agg l => .agg (fzL F c l)

def fzT (F : Nat → Bool) (c : Con) : List TC → List TC
  | [] => []
  | s :: l => TC.fz F c s :: fzT F c l

def TV.fz (F : Nat → Bool) (c : Con) : TV → TV
  | .one s => .one (Sc.fz F c s)
  | .agg l => .agg (fzL F c l)
  | .tup l => .tup (fzT F c l)

theorem SP.fz_conc {F : Nat → Bool} {c : Con} {p : SP} : (SP.fz F c p).conc c = p.conc c := by
  cases p with
  | loc b o => simp only [SP.fz]; split <;> rfl
  | ext a => rfl

theorem Sc.fz_conc {F : Nat → Bool} {c : Con} {s : Sc} : (Sc.fz F c s).conc c = s.conc c := by
  cases s with
  | ptr p => cases p with
    | none => rfl
    | some p => simp [Sc.fz, Sc.conc, SP.fz_conc]
  | slice p l k => cases p with
    | none => rfl
    | some p => simp [Sc.fz, Sc.conc, SP.fz_conc]
  | buf b l => simp only [Sc.fz]; split <;> rfl
  | _ => rfl

theorem fzL_conc {F : Nat → Bool} {c : Con} : ∀ {l : List Sc}, (fzL F c l).map (Sc.conc c) = l.map (Sc.conc c)
  | [] => rfl
  | s :: l => by simp [fzL, Sc.fz_conc, fzL_conc (l := l)]

theorem fzL_length {F : Nat → Bool} {c : Con} : ∀ {l : List Sc}, (fzL F c l).length = l.length
  | [] => rfl
  | s :: l => by simp [fzL, fzL_length (l := l)]

theorem TC.fz_conc {F : Nat → Bool} {c : Con} {v : TC} : (TC.fz F c v).conc c = v.conc c := by
  cases v with
  | one s => exact Sc.fz_conc
  | agg l => simp [TC.fz, TC.conc, fzL_conc]

theorem fzT_conc {F : Nat → Bool} {c : Con} : ∀ {l : List TC}, (fzT F c l).map (TC.conc c) = l.map (TC.conc c)
  | [] => rfl
  | s :: l => by simp [fzT, TC.fz_conc, fzT_conc (l := l)]

theorem TV.fz_conc {F : Nat → Bool} {c : Con} {v : TV} : (TV.fz F c v).conc c = v.conc c := by
  cases v with
  | one s => exact Sc.fz_conc
  | agg l => simp [TV.fz, TV.conc, fzL_conc]
  | tup l => simp [TV.fz, TV.conc, fzT_conc]

def Frozen (F : Nat → Bool) (c : Con) (B : Base) (bs : Mem) : Prop :=
  ∀ b x, F b = true → nth bs b = some x → ∃ junk : List Value, B (c.ι b) (.cells ((extL c x.cells).map (Sc.conc Con0) ++ junk).toArray x.elem (0, 0))

/-- Less is known: fewer slots, fewer blocks; the blocks of F belong to nobody any more. -/
structure Wk (F : Nat → Bool) (c : Con) (L : Nat) (e : Env) (m : HM) (e' : Env) (m' : HM) : Prop where
  env : ∀ t v, Ev.get e' t = some v → ∃ u, Ev.get e t = some u ∧ v = TV.fz F c u ∧ v.closed m'.bs.length = true
  mem : ∀ b x, nth m'.bs b = some x → F b = false ∧ ∃ y, nth m.bs b = some y ∧ x = ⟨fzL F c y.cells, y.elem, y.es, y.grows⟩ ∧ closedL m'.bs.length x.cells = true
  le : m'.bs.length ≤ m.bs.length
  ge : L ≤ m'.bs.length

/-- What is frozen, at its place. -/
def fzN (F : Nat → Bool) (c : Con) (m : HM) (w : World) : Base := fun r o => m.N r o ∨ ∃ b x, F b = true ∧ nth m.bs b = some x ∧ c.ι b = r ∧ w.heap[r]? = some o

theorem frozen_fzN {F : Nat → Bool} {A : Base} {c : Con} {m : HM} {w : World} (h : Rel A c m w) : Frozen F c (fzN F c m w) m.bs := fun b x hF hx => by
  obtain ⟨junk, h1, _⟩ := h.blk b x hx
  exact ⟨junk, .inr ⟨b, x, hF, hx, rfl, by rw [(extL_conc (h.cl b x hx)).1]; exact h1⟩⟩

theorem St.wk {F : Nat → Bool} {L : Nat} {c : Con} {m m' : HM} {e e' : Env} {a : Act} {w : World} (h : St G N c m e a w) (hw : Wk F c L e m e' m') (hN : m'.N = fzN F c m w) : St G N c m' e' a w := by
  refine ⟨⟨fun b x hx => ?_, fun b x hx => ?_, fun a b x y hx hy he => ?_, fun b hb => h.rel.lt b (Nat.lt_of_lt_of_le hb hw.le), h.rel.baseA, fun r o hr => ?_, fun b x o hx => ?_, fun b x o hx hn => ?_⟩,
   ⟨fun t v hv => ?_, h.fits.defers⟩, h.size⟩
  · obtain ⟨_, y, hy, rfl, _⟩ := hw.mem b x hx
    obtain ⟨junk, h1, h2, h3⟩ := h.rel.blk b y hy
    exact ⟨junk, by simpa only [fzL_conc] using h1, h2, by simpa only [fzL_length] using h3⟩
  · obtain ⟨_, y, hy, _, hc⟩ := hw.mem b x hx; exact hc
  · obtain ⟨_, x', hx', _⟩ := hw.mem a x hx
    obtain ⟨_, y', hy', _⟩ := hw.mem b y hy
    exact h.rel.inj a b x' y' hx' hy' he
  · rw [hN] at hr
    rcases hr with hr | ⟨_, _, _, _, _, hr⟩
    · exact h.rel.baseN r o hr
    · exact hr
  · obtain ⟨_, x', hx', _⟩ := hw.mem b x hx
    exact h.rel.sepA b x' o hx'
  · obtain ⟨hF, x', hx', _⟩ := hw.mem b x hx
    rw [hN] at hn
    rcases hn with hn | ⟨d, y, hFd, hy, he, _⟩
    · exact h.rel.sepN b x' o hx' hn
    · have := h.rel.inj d b y x' hy hx' he
      subst this; rw [hF] at hFd; cases hFd
  · obtain ⟨u, hu, rfl, hc⟩ := hw.env t v hv
    exact ⟨by rw [TV.fz_conc]; exact (h.fits.get t u hu).1, hc⟩

theorem Since.wk {F : Nat → Bool} {L : Nat} {c c' : Con} {m m1 m2 : HM} {e e' : Env} {w w' : World} (h : Since c m w c' m1 w') (hw : Wk F c' L e m1 e' m2) (hN : m2.N = fzN F c' m1 w') (hge : m.bs.length ≤ m2.bs.length) : Since c m w c' m2 w' := by
  have hsub : ∀ b x, nth m2.bs b = some x → ∃ y, nth m1.bs b = some y := fun b x hx => by
    obtain ⟨_, y, hy, _⟩ := hw.mem b x hx; exact ⟨y, hy⟩
  refine ⟨hge, h.agree, h.same, h.keep, fun b x hx h1 => by obtain ⟨y, hy⟩ := hsub b x hx; exact h.fresh b y hy h1, fun b x hx hb => by obtain ⟨y, hy⟩ := hsub b x hx; exact h.live b y hy hb, fun r o hn => ?_⟩
  rw [hN] at hn
  rcases hn with hn | ⟨d, y, _, hy, rfl, _⟩
  · exact h.newN r o hn
  · by_cases hd : d < m.bs.length
    · obtain ⟨z, hz⟩ := h.live d y hy hd
      exact .inr (.inr ⟨d, z, hz, (h.agree d hd).1.symm⟩)
    · rcases h.fresh d y hy (by omega) with h' | ⟨d', z, hz, h'⟩
      · exact .inr (.inl h')
      · exact .inr (.inr ⟨d', z, hz, h'.symm⟩)

/-- **A loop by its invariant**: I k: what holds at a round's head with k rounds at most to come. -/
theorem loop_inv (hG : CfgOk G) {b : Code} {Q : Exit → Env → HM → Prop} (I : Nat → Env → HM → Prop) {e : Env} {m : HM}
    (round : ∀ k e' m', I k e' m' → swp G b (fun x e1 m1 => match x with
      | .normal => ∃ j F, j < k ∧ ∀ c N1, Base.le m1.N N1 → Frozen F c N1 m1.bs → ∃ e2 bs2, Wk F c m.bs.length e1 m1 e2 ⟨bs2, N1⟩ ∧ I j e2 ⟨bs2, N1⟩
      | x => Q x e1 m1) e' m')
    (start : ∃ k F, ∀ c N1, Base.le m.N N1 → Frozen F c N1 m.bs → ∃ e' bs', Wk F c m.bs.length e m e' ⟨bs', N1⟩ ∧ I k e' ⟨bs', N1⟩) : SEM G (.loop b) Q e m := by
  intro N c a w hk hst
  simp only [okCode] at hk
  obtain ⟨k, F, h0⟩ := start
  obtain ⟨e0, bs0, hw0, hI0⟩ := h0 c (fzN F c m w) (fun _ _ h => .inl h) (frozen_fzN hst.rel)
  refine wp_loop_k (fun k a' w' => ∃ j e' m' c', j < k ∧ I j e' m' ∧ m.bs.length ≤ m'.bs.length ∧ St G N c' m' e' a' w' ∧ Since c m w c' m' w') (fun a' w' hh => ?_) (fun k a' w' hh => ?_) (k := k + 1)
    ⟨k, e0, _, c, Nat.lt_succ_self k, hI0, hw0.ge, hst.wk hw0 rfl, (Since.refl c m w).wk hw0 rfl hw0.ge⟩
  · obtain ⟨j, e', m', c', hj, _⟩ := hh
    exact absurd hj (Nat.not_lt_zero j)
  · obtain ⟨j, e', m', c', hj, hI, hge, hst', hs⟩ := hh
    refine wp_mono (swp_sound hG b _ e' m' c' a' w' hk (round j e' m' hI) hst') fun ex a2 w2 hp => ?_
    obtain ⟨e2, m2, c2, hq, hst2, hs2⟩ := hp
    cases ex with
    | normal =>
      obtain ⟨j', F', hj', hq⟩ := hq
      obtain ⟨e3, bs3, hw, hI'⟩ := hq c2 (fzN F' c2 m2 w2) (fun _ _ h => .inl h) (frozen_fzN hst2.rel)
      exact ⟨j', e3, _, c2, by omega, hI', hw.ge, hst2.wk hw rfl, (hs.trans hs2).wk hw rfl hw.ge⟩
    | _ => exact ⟨e2, m2, c2, hq, hst2, hs.trans hs2⟩

end
end Go.Hv

import Derived.Test.YtmappjgknpldpaaEv9
import Derived.Tactics
namespace Go.Ev

section
variable {G : Cfg} {N : Nat}

theorem put_size (a : Act) (d : Option Tmp) (v : Value) : (a.put d v).tmps.size = a.tmps.size := by
  cases d <;> simp [Act.put]

theorem St.step {c c' : Con} {m m' : Mem} {e : Env} {a : Act} {w w' : World} (h : St G N c m e a w) {o : Oper} (ho : dstOk N o = true) {v : TV} (hr : RelM G.W0 c' m' w') (hs : Since c m w c' m' w')
    (hv : v.closed m'.length = true) : St G N c' m' (putE o.dst v e) (a.put o.dst (v.conc c')) w' := by
  refine ⟨hr, ?_, by rw [put_size]; exact h.size⟩
  refine (h.fits.agree hs.agree hs.le).put (fun t ht => ?_) hv
  simp only [dstOk, ht, blt_lt] at ho
  exact Nat.lt_of_lt_of_le ho h.size

theorem wantedA_sound {ops : Array Oper} {c : Con} {n : Nat} {e : Env} {a : Act} (hf : Fits c n e a) {o : Oper} {b : Bool} (h : wantedA ops.toList o.guard e = some b) :
    Region.wanted o (yielded ops a.tmps) = b := by
  unfold wantedA at h
  unfold Region.wanted
  cases hg : o.guard with
  | none => simp only [hg] at h; simpa using h
  | some gw =>
    obtain ⟨j, want⟩ := gw
    simp only [hg] at h ⊢
    split at h
    · rename_i oj ho
      split at h
      · rename_i t ht
        split at h
        · rename_i b' hb
          simp only [Option.some.injEq] at h
          have h1 := (hf.get t _ hb).1
          have ho' : ops[j]? = some oj := by simpa using ho
          have h2 : a.tmps[t]? = some (.bool b') := by
            cases hx : a.tmps[t]? with
            | none =>
              simp [hx, TV.conc, Sc.conc, undef] at h1
            | some x =>
              simp [hx, TV.conc, Sc.conc] at h1
              rw [h1]
          simp only [yielded, ho', Option.bind_some, ht, h2]
          rw [← h]
          cases b' <;> cases want <;> rfl
        · cases h
      · cases h
    · cases h

/-- The text's order. -/
theorem aops_sound (hG : CfgOk G) {all : Array Oper} {K : Env → Mem → Prop} {Q : Exit → Act → World → Prop} : ∀ (l : List Oper) (e : Env) (m : Mem) (c : Con) (a : Act) (w : World),
    l.all (dstOk N) = true → aops G all.toList l e m K → St G N c m e a w →
    (∀ e' m' c' a' w', K e' m' → St G N c' m' e' a' w' → Since c m w c' m' w' → Q .normal a' w') → wpList G.P all Q l a w
  | [], e, m, c, a, w, _, h, hst, hQ => hQ e m c a w h hst (Since.refl c m w)
  | o :: l, e, m, c, a, w, hl, h, hst, hQ => by
    simp only [List.all_cons, Bool.and_eq_true] at hl
    simp only [aops] at h
    unfold wpList
    split at h
    · rename_i hw
      rw [if_pos (wantedA_sound hst.fits hw)]
      refine .inl (aop_sound hG hst.rel hst.fits h _ _ fun v m' c' w' hr hs hv hK => ?_)
      exact aops_sound hG l _ _ c' _ _ hl.2 hK (hst.step hl.1 hr hs hv) fun e' m'' c'' a' w'' hk hst' hs' => hQ e' m'' c'' a' w'' hk hst' (hs.trans hs')
    · rename_i hw
      rw [if_neg (by rw [wantedA_sound hst.fits hw]; simp)]
      exact aops_sound hG l _ _ c _ _ hl.2 h (hst.step (v := .tup []) hl.1 hst.rel (Since.refl c m w) rfl) hQ
    · exact h.elim

theorem aAny_sound (hG : CfgOk G) {ops : Array Oper} {K : Env → Mem → Prop} {Q : Exit → Act → World → Prop} (hops : ∀ (i : Nat) (o : Oper), ops[i]? = some o → dstOk N o = true) :
    ∀ (f : Nat) (listed : Array Bool) (e : Env) (m : Mem) (c : Con) (a : Act) (w : World), aAny G ops K f listed e m → St G N c m e a w →
    (∀ e' m' c' a' w', K e' m' → St G N c' m' e' a' w' → Since c m w c' m' w' → Q .normal a' w') → wpAny G.P .any ops Q f listed a w
  | 0, listed, e, m, c, a, w, h, hst, hQ => ⟨h.1, hQ e m c a w h.2 hst (Since.refl c m w)⟩
  | f + 1, listed, e, m, c, a, w, h, hst, hQ => by
    refine ⟨fun h0 => hQ e m c a w (h.1 h0) hst (Since.refl c m w), fun i hi => ?_⟩
    have hh := h.2 i hi
    unfold aAt at hh
    unfold wpOp
    split at hh
    · rename_i ho
      simp only [ho]
      exact aAny_sound hG hops f _ _ _ c _ _ hh hst hQ
    · rename_i o ho
      simp only [ho]
      unfold aSt at hh
      split at hh
      · rename_i hw
        rw [if_pos (wantedA_sound hst.fits hw)]
        refine .inl (aop_sound hG hst.rel hst.fits hh _ _ fun v m' c' w' hr hs hv hK => ?_)
        exact aAny_sound hG hops f _ _ _ c' _ _ hK (hst.step (hops i o ho) hr hs hv) fun e' m'' c'' a' w'' hk hst' hs' => hQ e' m'' c'' a' w'' hk hst' (hs.trans hs')
      · rename_i hw
        rw [if_neg (by rw [wantedA_sound hst.fits hw]; simp)]
        exact aAny_sound hG hops f _ _ _ c _ _ hh (hst.step (v := .tup []) (hops i o ho) hst.rel (Since.refl c m w) rfl) hQ
      · exact hh.elim

/-- A loop that ends within k rounds. -/
theorem wp_loop_k {P : Program} {Q : Exit → Act → World → Prop} {c : Code} (I : Nat → Act → World → Prop) (h0 : ∀ a w, ¬ I 0 a w)
    (round : ∀ k a w, I (k + 1) a w → c.wp P (Exit.then (fun a' w' => I k a' w') Q) a w) {k : Nat} {a : Act} {w : World} (h : I k a w) : (Code.loop c).wp P Q a w := by
  intro b k₀ cs
  have key : ∀ n a w, I n a w → ∃ e a' w', Q e a' w' ∧ Arrives P (lone (b.at a (.code c :: .inLoop c :: k₀)) cs w) b k₀ cs e a' w' := by
    intro n
    induction n with
    | zero => intro a w hI; exact absurd hI (h0 a w)
    | succ n ih =>
      intro a w hI
      obtain ⟨e, a₁, w₁, hq, harr⟩ := round n a w hI b (.inLoop c :: k₀) cs
      cases e with
      | normal =>
        obtain ⟨e₂, a₂, w₂, hq₂, harr₂⟩ := ih a₁ w₁ hq
        exact ⟨e₂, a₂, w₂, hq₂, .of_steps (Steps.trans harr (.one step_inLoop)) harr₂⟩
      | exit id => exact ⟨_, a₁, w₁, hq, .pass (x := .inLoop c) rfl (fun _ _ => .inl (by simp)) harr⟩
      | goto l => exact ⟨_, a₁, w₁, hq, .pass (x := .inLoop c) rfl (fun _ _ => .inl (by simp)) harr⟩
      | ret => exact ⟨_, a₁, w₁, hq, .pass (x := .inLoop c) rfl (fun _ _ => .inl (by simp)) harr⟩
      | panic ch => exact ⟨_, a₁, w₁, hq, .pass (x := .inLoop c) rfl (fun _ _ => .inl (by simp)) harr⟩
      | outgrown => exact ⟨_, a₁, w₁, hq, .pass (x := .inLoop c) rfl (fun _ _ => .inl (by simp)) harr⟩
  obtain ⟨e, a', w', hq, harr⟩ := key k a w h
  exact ⟨e, a', w', hq, .of_steps (.one step_loop) harr⟩

theorem get_mem {e : Env} {t : Nat} {v : TV} (h : get e t = some v) : (t, v) ∈ e := by
  induction e with
  | nil => simp [get] at h
  | cons p e ih =>
    obtain ⟨s, u⟩ := p
    simp only [get] at h
    split at h
    · rename_i hb
      have := Nat.eq_of_beq_eq_true hb
      subst this
      simp only [Option.some.injEq] at h
      subst h; simp
    · exact List.mem_cons_of_mem _ (ih h)

/-- What 'restr' leaves is known. -/
theorem restr_sound {K : Env → Prop} {e : Env} : ∀ (ts : List Nat) (acc : Env), (∀ t v, get acc t = some v → get e t = some v) → restr K e ts acc → ∃ e', K e' ∧ ∀ t v, get e' t = some v → get e t = some v
  | [], acc, hacc, h => ⟨acc, h, hacc⟩
  | t :: ts, acc, hacc, h => by
    simp only [restr] at h
    split at h
    · rename_i v hv
      refine restr_sound ts ((t, v) :: acc) (fun s u hs => ?_) h
      simp only [get] at hs
      split at hs
      · rename_i hb
        have := Nat.eq_of_beq_eq_true hb
        subst this
        simp only [Option.some.injEq] at hs
        subst hs; exact hv
      · exact hacc s u hs
    · exact restr_sound ts acc hacc h

theorem St.less {c : Con} {m : Mem} {e e' : Env} {a : Act} {w : World} (h : St G N c m e a w) (hle : ∀ t v, get e' t = some v → get e t = some v) : St G N c m e' a w :=
  ⟨h.rel, ⟨fun t v hv => h.fits.get t v (hle t v hv), h.fits.defers⟩, h.size⟩

theorem swp_sound (hG : CfgOk G) : ∀ (cd : Code) (Q : Exit → Env → Mem → Prop) (e : Env) (m : Mem) (c : Con) (a : Act) (w : World), okCode G N cd = true → swp G cd Q e m → St G N c m e a w →
    cd.wp G.P (Post G N c m w Q) a w
  | .skip, Q, e, m, c, a, w, _, h, hst => wp_skip ⟨e, m, c, h, hst, Since.refl c m w⟩
  | .label l, Q, e, m, c, a, w, _, h, hst => wp_label ⟨e, m, c, h, hst, Since.refl c m w⟩
  | .exit id, Q, e, m, c, a, w, _, h, hst => wp_exit ⟨e, m, c, h, hst, Since.refl c m w⟩
  | .ret, Q, e, m, c, a, w, _, h, hst => wp_ret ⟨e, m, c, h, hst, Since.refl c m w⟩
  | .region id ops draw, Q, e, m, c, a, w, hk, h, hst => by
    simp only [okCode] at hk
    split at hk
    · rename_i hd
      cases draw with
      | false =>
        exact wp_region_list (aops_sound hG ops.toList e m c a w hd h hst fun e' m' c' a' w' hK hst' hs => ⟨e', m', c', hK, hst', hs⟩)
      | true =>
        simp only at hk
        refine wp_region_any hG.mixed ?_
        have hops : ∀ (i : Nat) (o : Oper), ops[i]? = some o → dstOk N o = true := fun i o ho => List.all_eq_true.1 hd o (by simpa using Array.mem_of_getElem? ho)
        have hst' : St G N c m e a { w with drawn := w.drawn + 1 } := ⟨hst.rel.drew, hst.fits, hst.size⟩
        have hlex := aAny_lex (G := G) (ops := ops) hG (K := fun e' m' => ∃ e'', EnvEq e' e'' ∧ Q .normal e'' m') (fun e1 e2 m' he hh => by
          obtain ⟨e'', h1, h2⟩ := hh; exact ⟨e'', fun t => (he t).symm.trans (h1 t), h2⟩) ops.toList 0 (Array.replicate ops.size false) e m (by simp) (by simpa using hk) (by
            have mono : ∀ (l : List Oper) (e : Env) (m : Mem), aops G ops.toList l e m (Q .normal) → aops G ops.toList l e m (fun e' m' => ∃ e'', EnvEq e' e'' ∧ Q .normal e'' m') := by
              intro l
              induction l with
              | nil => intro e m hh; exact ⟨e, fun _ => rfl, hh⟩
              | cons o l ih =>
                intro e m hh
                simp only [aops] at hh ⊢
                split at hh
                · exact aop_mono (fun v m' hx => ih _ _ hx) hh
                · exact ih _ _ hh
                · exact hh
            exact mono ops.toList e m h)
        have := aAny_sound hG (N := N) hops _ _ _ _ c a _ hlex hst' (Q := Post G N c m w Q) (fun e' m' c' a' w' hK hst'' hs => by
          obtain ⟨e'', h1, h2⟩ := hK
          exact ⟨e'', m', c', h2, hst''.less (fun t v hv => by rw [h1 t]; exact hv), (Since.drew c m w).trans hs⟩)
        simpa using this
    · cases hk
  | .seq x y, Q, e, m, c, a, w, hk, h, hst => by
    simp only [okCode] at hk
    split at hk
    · rename_i hx
      refine wp_seq (wp_mono (swp_sound hG x _ e m c a w hx h hst) fun ex a' w' hp => ?_)
      obtain ⟨e', m', c', hq, hst', hs⟩ := hp
      cases ex with
      | normal =>
        refine wp_mono (swp_sound hG y _ e' m' c' a' w' hk hq hst') fun ex2 a2 w2 hp2 => ?_
        obtain ⟨e2, m2, c2, hq2, hst2, hs2⟩ := hp2
        exact ⟨e2, m2, c2, hq2, hst2, hs.trans hs2⟩
      | _ => exact ⟨e', m', c', hq, hst', hs⟩
    · cases hk
  | .cond cc x y, Q, e, m, c, a, w, hk, h, hst => by
    simp only [okCode] at hk
    split at hk
    · rename_i hx
      simp only [swp] at h
      split at h
      · rename_i t ht
        have he := (opv_sound hst.fits ht).1
        simp only [TV.conc, Sc.conc] at he
        split at h
        · exact wp_cond_true he (swp_sound hG x Q e m c a w hx h hst)
        · exact wp_cond_false he (swp_sound hG y Q e m c a w hk h hst)
      · exact h.elim
    · cases hk
  | .block id b, Q, e, m, c, a, w, hk, h, hst => by
    simp only [okCode] at hk
    refine wp_block (wp_mono (swp_sound hG b _ e m c a w hk h hst) fun ex a' w' hp => ?_)
    obtain ⟨e', m', c', hq, hst', hs⟩ := hp
    cases ex with
    | exit i =>
      simp only [Exit.inBlock]
      by_cases hid : i = id
      · subst hid
        simp only [if_true]
        have hb : Nat.beq i i = true := by simp
        simp only [hb] at hq
        exact ⟨e', m', c', hq, hst', hs⟩
      · have hb : Nat.beq i id = false := by
          cases hb : Nat.beq i id with
          | false => rfl
          | true => exact absurd (Nat.eq_of_beq_eq_true hb) hid
        simp only [if_neg hid]
        simp only [hb] at hq
        exact ⟨e', m', c', hq, hst', hs⟩
    | _ => exact ⟨e', m', c', hq, hst', hs⟩
  | .loop b, Q, e, m, c, a, w, hk, h, hst => by
    simp only [okCode] at hk
    simp only [swp] at h
    rcases h with ⟨k, h⟩ | h
    case inr => exact h N c a w (by simpa only [okCode] using hk) hst
    refine wp_loop_k (fun k a' w' => ∃ e' m' c', loopN (swp G b) (dom e []) Q k e' m' ∧ St G N c' m' e' a' w' ∧ Since c m w c' m' w') (fun a' w' hh => ?_) (fun k a' w' hh => ?_) (k := k) ⟨e, m, c, h, hst, Since.refl c m w⟩
    · obtain ⟨e', m', c', hl, _⟩ := hh
      exact hl
    · obtain ⟨e', m', c', hl, hst', hs⟩ := hh
      simp only [loopN] at hl
      refine wp_mono (swp_sound hG b _ e' m' c' a' w' hk hl hst') fun ex a2 w2 hp => ?_
      obtain ⟨e2, m2, c2, hq, hst2, hs2⟩ := hp
      cases ex with
      | normal =>
        obtain ⟨e3, h3, hle⟩ := restr_sound (dom e []) [] (fun t v hv => by simp [get] at hv) hq
        exact ⟨e3, m2, c2, h3, hst2.less hle, hs.trans hs2⟩
      | _ => exact ⟨e2, m2, c2, hq, hst2, hs.trans hs2⟩
  | .rangeFunc .., Q, e, m, c, a, w, _, h, hst => h.elim
  | .scope .., Q, e, m, c, a, w, _, h, hst => h.elim
  | .goto .., Q, e, m, c, a, w, _, h, hst => h.elim
  | .refuse .., Q, e, m, c, a, w, _, h, hst => h.elim

/-- Less is known: fewer slots, fewer blocks. -/
structure Wk (L : Nat) (e : Env) (m : Mem) (e' : Env) (m' : Mem) : Prop where
  env : ∀ t v, get e' t = some v → get e t = some v ∧ v.closed m'.length = true
  mem : ∀ b x, nth m' b = some x → nth m b = some x ∧ closedL m'.length x.cells = true
  le : m'.length ≤ m.length
  ge : L ≤ m'.length

theorem St.wk {L : Nat} {c : Con} {m m' : Mem} {e e' : Env} {a : Act} {w : World} (h : St G N c m e a w) (hw : Wk L e m e' m') : St G N c m' e' a w :=
  ⟨⟨fun b x hx => h.rel.blk b x (hw.mem b x hx).1, fun b x hx => (hw.mem b x hx).2, fun a b x y hx hy he => h.rel.inj a b x y (hw.mem a x hx).1 (hw.mem b y hy).1 he,
    fun b hb => h.rel.ge b (Nat.lt_of_lt_of_le hb hw.le), fun b hb => h.rel.lt b (Nat.lt_of_lt_of_le hb hw.le), h.rel.ext, h.rel.size, h.rel.os, h.rel.tape, h.rel.output⟩,
   ⟨fun t v hv => ⟨(h.fits.get t v (hw.env t v hv).1).1, (hw.env t v hv).2⟩, h.fits.defers⟩, h.size⟩

theorem Since.wk {c c' : Con} {m m1 m2 : Mem} {w w' : World} (h : Since c m w c' m1 w') (hsub : ∀ b x, nth m2 b = some x → ∃ y, nth m1 b = some y) (hge : m.length ≤ m2.length) : Since c m w c' m2 w' :=
  ⟨hge, h.agree, h.size, h.keep, fun b x hx h1 => by obtain ⟨y, hy⟩ := hsub b x hx; exact h.fresh b y hy h1, fun b x hx hb => by obtain ⟨y, hy⟩ := hsub b x hx; exact h.live b y hy hb⟩

/-- **A loop by its invariant**: I k: what holds at a round's head with k rounds at most to come. -/
theorem loop_inv (hG : CfgOk G) {b : Code} {Q : Exit → Env → Mem → Prop} (I : Nat → Env → Mem → Prop) {e : Env} {m : Mem}
    (round : ∀ k e' m', I k e' m' → swp G b (fun x e1 m1 => match x with
      | .normal => ∃ j e2 m2, j < k ∧ Wk m.length e1 m1 e2 m2 ∧ I j e2 m2
      | x => Q x e1 m1) e' m')
    (start : ∃ k e' m', Wk m.length e m e' m' ∧ I k e' m') : SEM G (.loop b) Q e m := by
  intro N c a w hk hst
  simp only [okCode] at hk
  obtain ⟨k, e0, m0, hw0, h0⟩ := start
  refine wp_loop_k (fun k a' w' => ∃ j e' m' c', j < k ∧ I j e' m' ∧ m.length ≤ m'.length ∧ St G N c' m' e' a' w' ∧ Since c m w c' m' w') (fun a' w' hh => ?_) (fun k a' w' hh => ?_) (k := k + 1)
    ⟨k, e0, m0, c, Nat.lt_succ_self k, h0, hw0.ge, hst.wk hw0, (Since.refl c m w).wk (fun b x hx => ⟨x, (hw0.mem b x hx).1⟩) hw0.ge⟩
  · obtain ⟨j, e', m', c', hj, _⟩ := hh
    exact absurd hj (Nat.not_lt_zero j)
  · obtain ⟨j, e', m', c', hj, hI, hge, hst', hs⟩ := hh
    refine wp_mono (swp_sound hG b _ e' m' c' a' w' hk (round j e' m' hI) hst') fun ex a2 w2 hp => ?_
    obtain ⟨e2, m2, c2, hq, hst2, hs2⟩ := hp
    cases ex with
    | normal =>
      obtain ⟨j', e3, m3, hj', hw, hI'⟩ := hq
      exact ⟨j', e3, m3, c2, by omega, hI', hw.ge, hst2.wk hw, (hs.trans hs2).wk (fun b x hx => ⟨x, (hw.mem b x hx).1⟩) hw.ge⟩
    | _ => exact ⟨e2, m2, c2, hq, hst2, hs.trans hs2⟩

end
end Go.Ev

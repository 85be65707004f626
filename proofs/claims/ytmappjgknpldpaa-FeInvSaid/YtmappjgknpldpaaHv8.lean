import Derived.Test.YtmappjgknpldpaaHv7
namespace Go.Hv
open Go.Ev

section
variable {G : Cfg} {c : Con} {m : HM} {e e' : Env} {a : Act} {w : World} {ops : Array Oper}

theorem pval2_same {T : Tys} {op : Op} (h : ∀ x ∈ op.operands.toList, opv e x = opv e' x) : pval2 T op e = pval2 T op e' := by
  cases op with
  | binOp _ _ x y _ => simp only [pval2, h x (by simp [Op.operands]), h y (by simp [Op.operands])]
  | slice t x lo hi mx =>
    have b1 := bound_same (e := e) (e' := e') (x := lo) (d := 0) (fun y hy => h y (by simp [Op.operands]; simp at hy; simp [hy]))
    have b2 := fun d => bound_same (e := e) (e' := e') (x := hi) (d := d) (fun y hy => h y (by simp [Op.operands]; simp at hy; simp [hy]))
    cases mx with
    | some y =>
      cases hi with
      | none => rfl
      | some hi =>
      have b3 := fun d => bound_same (e := e) (e' := e') (x := some y) (d := d) (fun z hz => h z (by simp [Op.operands]; simp at hz; simp [hz]))
      simp only [pval2, h x (by simp [Op.operands]), b1, b2, b3]
    | none => simp only [pval2, h x (by simp [Op.operands]), b1, b2]
  | call cl =>
    obtain ⟨callee, xs, ts⟩ := cl
    have := getOps_same (e := e) (e' := e') (xs := xs.toList) (fun x hx => h x (by simp [Op.operands, Call.operands]; right; simpa using hx))
    cases callee with
    | builtin b => cases b <;> simp only [pval2, this]
    | _ => rfl
  | _ => rfl

theorem pvalH_same {T : Tys} {op : Op} (h : ∀ x ∈ op.operands.toList, opv e x = opv e' x) : pvalH T op e = pvalH T op e' := by
  unfold pvalH
  rw [pval_same h, pval2_same h]

theorem aop_same {o : Oper} {K : TV → HM → Prop} (h : ∀ x ∈ o.op.operands.toList, opv e x = opv e' x) (hh : aop G o e m K) : aop G o e' m K := by
  unfold aop at *
  have hp := pvalH_same (T := G.T) h
  split at hh
  · exact hh
  · rename_i t x ho
    rw [ho] at h
    simp only [← h x (by simp [Op.operands])]; exact hh
  · rename_i t x ho
    rw [ho] at h
    simp only [← h x (by simp [Op.operands])]; exact hh
  · rename_i t x y ho
    rw [ho] at h
    simp only [← h x (by simp [Op.operands]), ← h y (by simp [Op.operands])]; exact hh
  · rename_i f xs ts ho
    rw [ho] at h
    have := getOps_same (e := e) (e' := e') (xs := xs.toList) (fun x hx => h x (by simp [Op.operands, Call.operands]; right; simpa using hx))
    simp only [← this]; exact hh
  · rename_i xs ts ho
    rw [ho] at h
    have := getOps_same (e := e) (e' := e') (xs := xs.toList) (fun x hx => h x (by simp [Op.operands, Call.operands]; simpa using hx))
    simp only [← this]; exact hh
  · rename_i xs ts ho
    rw [ho] at h
    have := getOps_same (e := e) (e' := e') (xs := xs.toList) (fun x hx => h x (by simp [Op.operands, Call.operands]; simpa using hx))
    simp only [← this]; exact hh
  · rename_i t x y ho
    rw [ho] at h
    simp only [← h x (by simp [Op.operands]), ← h y (by simp [Op.operands])]; exact hh
  · split at hh
    · rename_i t n psl hn
      obtain ⟨ps, ho, rfl⟩ := newOp_some hn
      rw [ho] at h
      have := opvP_same (e := e) (e' := e') (xs := ps.toList) (fun x hx => h x.2 (by simp only [Op.operands]; simp only [List.mem_map]; exact ⟨x, hx, rfl⟩))
      simp only [← this]; exact hh
    · simp only [← hp]
      split at hh
      · exact hh
      · split at hh
        · rename_i s d x ho
          rw [ho] at h
          simp only [← h x (by simp [Op.operands])]; exact hh
        · exact hh

theorem acall_mono {f : FuncId} {args : List TV} {K K' : TV → HM → Prop} (hk : ∀ v m, K v m → K' v m) (h : acall G f args m K) : acall G f args m K' := by
  unfold acall at *
  split at h
  · exact primC_mono (fun v => hk v m) h
  · split at h
    · obtain ⟨v, h1, h2, h3⟩ := h; exact ⟨v, h1, h2, hk _ _ h3⟩
    · obtain ⟨K0, h1, h2, h3⟩ := h; exact ⟨K0, h1, h2, fun v N' hc hv N1 hN => hk _ _ (h3 v N' hc hv N1 hN)⟩
    · obtain ⟨K0, h1, h2, h3⟩ := h
      refine ⟨K0, h1, h2, fun n cap k N' hc hv N1 hN => ?_⟩
      have := h3 n cap k N' hc hv N1 hN
      simp only [snoc_eq] at this ⊢
      exact hk _ _ this
    · obtain ⟨R, h1, h2, h3⟩ := h; exact ⟨R, h1, h2, fun v m' hr => hk _ _ (h3 v m' hr)⟩

theorem aload_mono {t : TypeId} {x : TV} {K K' : TV → HM → Prop} (hk : ∀ v m, K v m → K' v m) (h : aload G t x m K) : aload G t x m K' := by
  unfold aload at *
  split at h
  · split at h
    · split at h
      · exact hk _ _ h
      · exact h
    · exact h
  · obtain ⟨v, h1, h2⟩ := h; exact ⟨v, h1, hk _ _ h2⟩
  · exact h

theorem acopy_mono {ts : List TypeId} {args : List TV} {K K' : TV → HM → Prop} (hk : ∀ v m, K v m → K' v m) (h : acopy G ts args m K) : acopy G ts args m K' := by
  unfold acopy at *
  split at h
  · split at h
    · obtain ⟨us, h1, h2⟩ := h
      refine ⟨us, h1, ?_⟩
      split at h2
      · exact hk _ _ h2
      · exact h2
    · exact h
  · exact h

theorem aappend_mono {ts : List TypeId} {args : List TV} {K K' : TV → HM → Prop} (hk : ∀ v m, K v m → K' v m) (h : aappend G ts args m K) : aappend G ts args m K' := by
  unfold aappend at *
  split at h
  · split at h
    · split at h
      · obtain ⟨us, h1, h2, h3, h4⟩ := h
        refine ⟨us, h1, h2, h3, ?_⟩
        split at h4
        · refine ⟨h4.1, h4.2.1, fun cap hc => ?_⟩
          have := h4.2.2 cap hc
          simp only [snoc_eq] at this ⊢
          exact hk _ _ this
        · split at h4
          · obtain ⟨g1, g2, g3, g4, g5, g6⟩ := h4
            refine ⟨g1, g2, g3, g4, g5, fun cap hc => ?_⟩
            have := g6 cap hc
            simp only [snoc_eq] at this ⊢
            exact hk _ _ this
          · exact h4
        · exact h4
      · exact h
    · exact h
  · exact h

theorem amake_mono {t : TypeId} {x y : TV} {K K' : TV → HM → Prop} (hk : ∀ v m, K v m → K' v m) (h : amake G t x y m K) : amake G t x y m K' := by
  unfold amake at *
  split at h
  · split at h
    · refine ⟨h.1, ?_⟩
      have := h.2
      simp only [snoc_eq] at this ⊢
      exact hk _ _ this
    · exact h
  · exact h

theorem aconv_mono {s d : TypeId} {x : TV} {K K' : TV → HM → Prop} (hk : ∀ v m, K v m → K' v m) (h : aconv G s d x m K) : aconv G s d x m K' := by
  unfold aconv at *
  split at h
  · split at h
    · obtain ⟨l, h1, h2, h3, h4⟩ := h; exact ⟨l, h1, h2, h3, hk _ _ h4⟩
    · exact h
  · split at h
    · exact ⟨h.1, fun a cap N1 g1 g2 g3 g4 g5 => hk _ _ (h.2 a cap N1 g1 g2 g3 g4 g5)⟩
    · exact h
  · exact h

theorem optM_mono {r : Option (TV × HM)} {K K' : TV → HM → Prop} (hk : ∀ v m, K v m → K' v m) (h : optM r K) : optM r K' := by
  unfold optM at *
  split at h
  · exact hk _ _ h
  · exact h

theorem aop_mono {o : Oper} {K K' : TV → HM → Prop} (hk : ∀ v m, K v m → K' v m) (h : aop G o e m K) : aop G o e m K' := by
  unfold aop at *
  split at h
  · split at h
    · exact hk _ _ h
    · exact h
  · split at h
    · split at h
      · exact hk _ _ h
      · exact h
    · exact h
  · split at h
    · exact aload_mono hk h
    · exact h
  · split at h
    · split at h
      · exact hk _ _ h
      · exact h
    · exact h
  · split at h
    · exact acall_mono hk h
    · exact h
  · split at h
    · exact acopy_mono hk h
    · exact h
  · split at h
    · exact aappend_mono hk h
    · exact h
  · split at h
    · exact amake_mono hk h
    · exact h
  · split at h
    · split at h
      · exact optM_mono hk h
      · exact h
    · split at h
      · exact hk _ _ h
      · split at h
        · split at h
          · exact aconv_mono hk h
          · exact h
        · exact h

theorem acall_strict (hG : CfgOk G) {f : FuncId} {args : List TV} {K : TV → HM → Prop} (h : acall G f args m K) : ∃ v m', K v m' := by
  unfold acall at h
  split at h
  · rename_i p hp
    obtain ⟨v, hK, _⟩ := hG.prim f p hp default args _ h
    exact ⟨v, m, hK⟩
  · split at h
    · obtain ⟨v, _, _, h3⟩ := h; exact ⟨v, m, h3⟩
    · obtain ⟨K0, _, ⟨v, N, hc, hv⟩, h3⟩ := h; exact ⟨v, _, h3 v N hc hv _ (fun _ _ h => h)⟩
    · obtain ⟨K0, _, ⟨n, cap, k, N, hc, hv⟩, h3⟩ := h
      have := h3 n cap k N hc hv _ (fun _ _ h => h)
      simp only [snoc_eq] at this
      exact ⟨_, _, this⟩
    · obtain ⟨R, _, ⟨v, m', h2⟩, h3⟩ := h; exact ⟨v, m', h3 v m' h2⟩

theorem aop_strict (hG : CfgOk G) {o : Oper} {K : TV → HM → Prop} (h : aop G o e m K) : ∃ v m', K v m' := by
  unfold aop at h
  split at h
  · split at h
    · exact ⟨_, _, h⟩
    · exact h.elim
  · split at h
    · split at h
      · exact ⟨_, _, h⟩
      · exact h.elim
    · exact h.elim
  · split at h
    · unfold aload at h
      split at h
      · split at h
        · split at h
          · exact ⟨_, _, h⟩
          · exact h.elim
        · exact h.elim
      · obtain ⟨v, _, h2⟩ := h; exact ⟨_, _, h2⟩
      · exact h.elim
    · exact h.elim
  · split at h
    · split at h
      · exact ⟨_, _, h⟩
      · exact h.elim
    · exact h.elim
  · split at h
    · exact acall_strict hG h
    · exact h.elim
  · split at h
    · unfold acopy at h
      split at h
      · split at h
        · obtain ⟨us, _, h⟩ := h
          split at h
          · exact ⟨_, _, h⟩
          · exact h.elim
        · exact h.elim
      · exact h.elim
    · exact h.elim
  · split at h
    · unfold aappend at h
      split at h
      · split at h
        · split at h
          · obtain ⟨us, _, _, _, h⟩ := h
            split at h
            · have := h.2.2 _ (Nat.le_refl _)
              simp only [snoc_eq] at this
              exact ⟨_, _, this⟩
            · split at h
              · obtain ⟨_, _, _, _, _, h⟩ := h
                have := h _ (Nat.le_refl _)
                simp only [snoc_eq] at this
                exact ⟨_, _, this⟩
              · exact h.elim
            · exact h.elim
          · exact h.elim
        · exact h.elim
      · exact h.elim
    · exact h.elim
  · split at h
    · unfold amake at h
      split at h
      · split at h
        · have := h.2
          simp only [snoc_eq] at this
          exact ⟨_, _, this⟩
        · exact h.elim
      · exact h.elim
    · exact h.elim
  · split at h
    · split at h
      · unfold optM at h
        split at h
        · exact ⟨_, _, h⟩
        · exact h.elim
      · exact h.elim
    · split at h
      · exact ⟨_, _, h⟩
      · split at h
        · split at h
          · unfold aconv at h
            split at h
            · split at h
              · obtain ⟨_, _, _, _, h⟩ := h; exact ⟨_, _, h⟩
              · exact h.elim
            · split at h
              · rename_i t _ _
                refine ⟨_, _, h.2 ⟨0, 0, none⟩ t.size (fun r o => m.N r o ∨ (r = 0 ∧ o = .cells (t.data.map fun b => .int .u8 b.toNat) 0 (0, 0))) (Nat.le_refl _) rfl rfl (fun _ _ h => .inl h) (fun i b hb => ?_)⟩
                refine ⟨_, _, _, .inr ⟨?_, rfl⟩, ?_, ?_⟩
                · unfold Addr.add; split <;> rfl
                · unfold Addr.add; split <;> rfl
                · have : (Addr.add ⟨0, 0, none⟩ i).off = i := by unfold Addr.add; split <;> simp_all
                  rw [this]; simp [hb]
              · exact h.elim
            · exact h.elim
          · exact h.elim
        · exact h.elim

end
end Go.Hv

import Derived.Test.YtaochmekimkegaaSu1
namespace Go.Hv
open Go.Ev Go.Ec
open Go.RowKit (Below)

theorem ends_M {F : Fence} {n : Nat} {P : Program} {fn : Func} {R : Ending → World → Prop} {a : Act} {w w' : World} {D : Nat} (hd : a.defers = [{ target := .collected D, args := #[] }]) (hK : w.heap[D]? = some (.deferred (some [])))
  (hw : w.putObj D (.deferred none) = w') {v : Value} (hr : (results fn a.tmps).run P w' = .ok v w') (hR : R (.returned v) w') : bodyPostM F n P fn R .ret a w := by
 show LeavesInM F n P fn a.tmps R a.defers .returning w
 rw [hd]
 refine ⟨by simp, .inl ⟨_, _, rfl, run_takeDeferred hK, ?_⟩⟩
 rw [hw]
 exact ⟨v, hr, hR⟩

theorem act_nil (a : Act) : actApp a [] = a := by simp [actApp]

set_option maxHeartbeats 2000000 in
set_option maxRecDepth 100000 in
theorem sum_hc {A : Base} {q : Sc} {L : List Pnt} (hs : Sl A 9 (.one q) (L.map Pnt.cells)) {Bs : Nat} (hbox : bcell A ⟨Bs, 0, none⟩ (q.conc Con0)) :
  HC PG A f_curve_Sum [.one (.raw (.func (.func f_slices_Values___api_Point_api_Point__1) #[] #[.pointer (some ⟨Bs, 0, none⟩)]))] fun v _ => v = ptOf (psum L) := by
 refine ⟨enters_of h_curve_Sum rfl rfl, fun w hw => ?_⟩
 generalize hR : (fun (e : Ending) (w' : World) => ∃ v N, e = .returned (v.conc Con0) ∧ v.closed 0 = true ∧
  BaseIn N w' ∧ (∀ r o, N r o → w.heap.size ≤ r) ∧ Same w w' ∧ (∀ r, r < w.heap.size → w'.heap[r]? = w.heap[r]?) ∧ v = ptOf (psum L)) = R
 have hAlt : ∀ r o, A r o → r < w.heap.size := fun r o hr => (Array.getElem?_eq_some_iff.1 (hw r o hr)).1
 refine (callsIn_wide (n := 3)).1 (callsIn_of_wp_marks (F := FW none) h_curve_Sum rfl trivial ?_ rfl)
 have hst := st0 (G := HHo A fun _ => none) (fn := F_curve_Sum) (c := Con0) (m := M0) (w := w) (args := [.one (.raw (.func (.func f_slices_Values___api_Point_api_Point__1) #[] #[.pointer (some ⟨Bs, 0, none⟩)]))]) (rel0 hw) (by
  intro v hv
  simp only [List.mem_singleton] at hv
  subst hv
  rfl)
 suffices key : ∀ a0 : Act, St (HHo A fun _ => none) F_curve_Sum.ntmps Con0 M0 (ienv 0 [.one (.raw (.func (.func f_slices_Values___api_Point_api_Point__1) #[] #[.pointer (some ⟨Bs, 0, none⟩)]))]) a0 w →
   Code.wpIn (FW none) 3 PG (bodyOf F_curve_Sum) (bodyPostM (FW none) 3 PG F_curve_Sum R) (actApp a0 []) w by exact key _ hst
 clear hst
 intro a0 hst
 refine seq_FW (gH A _) (by kernel_rfl) rfl hst ?_
 refine aops_step fun T S hT hS => ?_
 conv => whnf
 refine hT _ _ ?_
 refine aops_end ?_
 refine ⟨rfl, fun a1 w1 c1 hst1 hs1 => ?_⟩
 refine seq_FW (gH A _) (by kernel_rfl) rfl hst1 ?_
 refine aops_step fun T S hT hS => ?_
 conv => whnf
 refine hT _ _ ?_
 refine aops_end ?_
 refine ⟨rfl, fun a2 w2 c2 hst2 hs2 => ?_⟩
 refine wpIn_seq ?_
 refine seq_FW (gH A _) (by kernel_rfl) rfl hst2 ?_
 refine aops_step fun T S hT hS => ?_
 conv => whnf
 refine hT _ _ ?_
 refine aops_end ?_
 refine ⟨rfl, fun a3 w3 c3 hst3 hs3 => ?_⟩
 have hs13 := hs1.trans (hs2.trans hs3)
 have hgr := grow_of_since hs13 rfl
 have hB3 : Below w.heap.size w w3 := below_of_grow hgr (Nat.le_refl _)
 have fresh : ∀ b x, nth _ b = some x → w.heap.size ≤ c3.ι b := fun b x hx => by
  rcases hs13.fresh b x hx (Nat.zero_le _) with h | ⟨d, y, hd, _⟩
  ·exact h
  ·cases d <;> cases hd
 have f0 := fresh 0 _ rfl
 have f1 := fresh 1 _ rfl
 have i0 : CellsAt w3 (c3.ι 0) (ptC 0 0 false) t_api_Point := cellsAt_of (G := HHo A fun _ => none) hst3.rel (b := 0) (es := 0) rfl rfl
 have i1 : CellsAt w3 (c3.ι 1) (farT (pF [])) t_curve_far := cellsAt_of (G := HHo A fun _ => none) hst3.rel (b := 1) (es := 0) (by
  show _ = some (⟨farT (0, 0, 0), _, _, _⟩ : Blk)
  rw [farT_zero]
  rfl) rfl
 have hne : c3.ι 0 ≠ c3.ι 1 := fun e => absurd (hst3.rel.inj 0 1 _ _ rfl rfl e) (by decide)
 have g2 := hst3.fits.get 2 _ rfl
 have g3 := (hst3.fits.get 3 _ rfl).1
 have g5 := (hst3.fits.get 5 _ rfl).1
 have hA3 : BaseIn A w3 := hst3.rel.baseA
 have hI : OwnFrom w3.heap.size (fun (pre : List Pnt) W => CellsAt W (c3.ι 0) (ptC 0 0 false) t_api_Point ∧ CellsAt W (c3.ι 1) (farT (pF pre)) t_curve_far ∧ Below w.heap.size w3 W) :=
  OwnFrom.and (cellsAt_own _ _ (fun _ => ptC 0 0 false) _) (OwnFrom.and (cellsAt_own _ _ (fun pre => farT (pF pre)) _) (ownFrom_below hB3.size hB3.size))
 have hl0 := i0.lt
 have hl1 := i1.lt
 refine wpIn_block ?_
 refine wpIn_rangeFunc_ownH (F := FW none) (w := w3) rfl (by decide) (gf := f_slices_Values___api_Point_api_Point__1) (lb := #[.pointer (some ⟨Bs, 0, none⟩)]) g5 trivial (enters_of h_slices_Values___api_Point_api_Point__1 rfl rfl) (values_stops hs hbox hAlt hB3.size hA3) belowK_t (belowK_b hB3.size) (Below.refl _ _) (fun _ => rfl)
  (fun pre W => CellsAt W (c3.ι 0) (ptC 0 0 false) t_api_Point ∧ CellsAt W (c3.ι 1) (farT (pF pre)) t_curve_far ∧ Below w.heap.size w3 W) (fun _ _ _ => False) hI (fun _ _ _ _ _ h _ _ => h) ⟨i0, i1, Below.refl _ _⟩
  (fun x a' W => ∃ Bx W1, w3.heap.size ≤ Bx ∧ CellsAt W Bx x.cells t_api_Point ∧ St (HHo BE fun _ => none) F_curve_Sum.ntmps Con0 M0 [(4, .one (.ptr (some (.ext ⟨Bx, 0, none⟩)))), (3, .one (.ptr (some (.ext ⟨c3.ι 1, 0, none⟩))))] a' W1) ?hAx ?assign ?body ?done ?stop
 case hAx =>
  rintro x a' _ X Y row ⟨Bx, W1, h1, h2, h3⟩ hg hr
  exact ⟨Bx, W1, h1, cellsAt_own _ Bx (fun _ : Unit => x.cells) _ () X Y row h2 hg hr, h3⟩
 case assign =>
  intro l pre x W K hIW hK
  have hAW : BaseIn A W := fun r o hr => (hIW.2.2.block r (hAlt r o hr)).trans (hA3 r o hr)
  have hstA : St (HHo A fun _ => none) F_curve_Sum.ntmps Con0 M0 [(3, .one (.ptr (some (.ext ⟨c3.ι 1, 0, none⟩))))] a3 W := st_names hst3 (rel0 hAW) (by
   intro p hp
   simp only [List.mem_singleton] at hp
   subst hp
   exact ⟨_, rfl, rfl, rfl⟩)
  have hstB := hstA.step (o := { dst := some 6, op := .move (.tmp 0), type := 0, pos := "", after := #[], guard := none }) (by kernel_rfl) (v := .agg x.cells) (rel0 hAW) (Since.refl _ _ _) rfl
  have ea : ({ tmps := (#[6].zip #[(TV.agg x.cells).conc Con0]).foldl (fun t (p, v) => t.setIfInBounds p v) (actApp a3 []).tmps, defers := [] } : Act) = actApp (a3.put (some 6) ((TV.agg x.cells).conc Con0)) [] := by
   have := hst3.fits.defers
   simp [actApp, Act.put, this]
  rw [ea]
  refine end_FW (gH A _) (by kernel_rfl) rfl hstB ?_
  iterate 2 (refine aops_step fun T S hT hS => ?_; (conv => whnf); refine hT _ _ ?_)
  refine aops_end ?_
  refine ⟨rfl, fun a4 w4 c4 hst4 hs4 => ?_⟩
  have hg4 := grow_of_since hs4 rfl
  have f4 : W.heap.size ≤ c4.ι 0 := by
   rcases hs4.fresh 0 _ rfl (Nat.zero_le _) with h | ⟨d, y, hd, _⟩
   ·exact h
   ·cases d <;> cases hd
  show K (actApp a4 []) w4
  rw [act_nil]
  refine hK _ _ (KeepsFrom.of_grownBy hg4 (fun _ e => by cases e)) (below_of_grow hg4 (Nat.le_trans hB3.size hIW.2.2.size)) (hI pre W _ none hIW hg4 (fun r e => by cases e)) ⟨c4.ι 0, w4, Nat.le_trans hIW.2.2.size f4, cellsAt_of (G := HHo A fun _ => none) hst4.rel (b := 0) (es := 0) rfl rfl, st_names hst4 (rel0 (fun _ _ h => h.elim)) (by
   intro p hp
   simp only [List.mem_cons, List.not_mem_nil, or_false] at hp
   rcases hp with rfl | rfl
   ·exact ⟨_, rfl, rfl, rfl⟩
   ·exact ⟨_, rfl, rfl, rfl⟩)⟩
 case body =>
  rintro l pre x a' W hl _ ⟨h0, h1, hB⟩ ⟨Bx, W1, hBx, hcx, hstx⟩ hlen
  have hne1 : c3.ι 1 ≠ Bx := by omega
  have hst5 : St (HHo BE fun _ => none) F_curve_Sum.ntmps (con2 (c3.ι 1) Bx) (mem2 (farT (pF pre)) x.cells t_curve_far t_api_Point) [(4, .one (.ptr (some (.loc 1 0)))), (3, .one (.ptr (some (.loc 0 0))))] a' W := st_names hstx (rel2 h1 hcx hne1 rfl rfl) (by
   intro p hp
   simp only [List.mem_cons, List.not_mem_nil, or_false] at hp
   rcases hp with rfl | rfl
   ·exact ⟨_, rfl, rfl, rfl⟩
   ·exact ⟨_, rfl, rfl, rfl⟩)
  obtain ⟨⟨x1, y1, b1⟩, ix, iy⟩ := x
  have k1 := out_fn (b := b1) ix iy
  have k2 := plus_fn (pF pre) (Pnt.far ⟨(x1, y1, b1), ix, iy⟩)
  rw [← pF_snoc] at k2
  have k1 : Ev.Fn PG f_curve_out [ptV x1 y1 b1] (farV (Pnt.far ⟨(x1, y1, b1), ix, iy⟩)) := k1
  have hfin : ∀ T : KK × KK × KK, closedL 0 (farT T) = true := fun _ => rfl
  rw [← act_nil a']
  refine wpIn_block ?_
  refine end_FW (gH BE _) (by kernel_rfl) rfl hst5 ?_
  generalize hT : pF pre = T at *
  generalize hU : Pnt.far ⟨(x1, y1, b1), ix, iy⟩ = U at *
  generalize hV : pF (pre ++ [⟨(x1, y1, b1), ix, iy⟩]) = V at *
  iterate 2 (refine aops_step fun T S hT hS => ?_; (conv => whnf); refine hT _ _ ?_)
  refine aops_step fun T S hT hS => ?_
  conv => whnf
  refine ⟨_, k1, rfl, ?_⟩
  refine hT _ _ ?_
  refine aops_step fun T S hT hS => ?_
  conv => whnf
  refine ⟨_, k2, rfl, ?_⟩
  refine hT _ _ ?_
  refine aops_step fun T S hT hS => ?_
  conv => whnf
  refine hT _ _ ?_
  refine aops_end ?_
  refine ⟨rfl, fun a6 w6 c6 hst6 hs6 => ?_⟩
  have other : ∀ k, k < W.heap.size → k ≠ c3.ι 1 → k ≠ Bx → w6.heap[k]? = W.heap[k]? := fun k hk n1 n2 => hs6.keep k hk (fun b y hy => by
   match b, hy with
   | 0, _ => exact fun e => n1 e.symm
   | 1, _ => exact fun e => n2 e.symm
   | b + 2, hy => cases hy)
  have hBW : Below w.heap.size W w6 := ⟨hs6.same.os, hs6.same.tape, hs6.same.output, hs6.same.size, fun k hk => other k (Nat.lt_of_lt_of_le hk (Nat.le_trans hB3.size hB.size)) (by omega) (by have := hB3.size; omega)⟩
  have hc1 : CellsAt w6 (c6.ι 0) (farT V) t_curve_far := cellsAt_of (G := HHo BE fun _ => none) hst6.rel (b := 0) (es := 0) rfl rfl
  rw [(hs6.agree 0 (by show 0 < 2; omega)).1] at hc1
  refine ⟨⟨hs6.same.size, fun k o hk ho hc => (other k (Array.getElem?_eq_some_iff.1 ho).1 (by omega) (fun e => ?_)).trans ho⟩, hBW, (other _ h0.lt hne (by omega)).trans h0, ?_, hB.trans hBW⟩
  ·rw [e, show W.heap[Bx]? = _ from hcx] at ho
   cases ho
   cases hc
  ·rw [hV]
   exact hc1
 case done =>
  rintro D xs W hD rfl ⟨h0, h1, hB⟩ hK
  have hst5 : St (HHo BE fun _ => none) F_curve_Sum.ntmps (con2 (c3.ι 0) (c3.ι 1)) (mem2 (ptC 0 0 false) (farT (pF xs)) t_api_Point t_curve_far) [(3, .one (.ptr (some (.loc 1 0)))), (2, .one (.ptr (some (.loc 0 0))))] a3 W := st_names hst3 (rel2 h0 h1 hne rfl rfl) (by
   intro p hp
   simp only [List.mem_cons, List.not_mem_nil, or_false] at hp
   rcases hp with rfl | rfl
   ·exact ⟨_, rfl, rfl, rfl⟩
   ·exact ⟨_, rfl, rfl, rfl⟩)
  show Code.wpIn (FW none) 3 PG _ _ ({ actApp a3 [] with defers := { target := .collected D, args := #[] } :: (actApp a3 []).defers } : Act) W
  rw [show ({ actApp a3 [] with defers := { target := .collected D, args := #[] } :: (actApp a3 []).defers } : Act) = actApp a3 [{ target := .collected D, args := #[] }] from by simp [actApp, hst3.fits.defers]]
  have ch := home_fn (pF xs)
  rw [pF_psum] at ch
  obtain ⟨px, py, pb, ipx, ipy, ep, _, _⟩ := pt_nm (psum xs) (psum_on xs)
  rw [ep] at ch hR
  refine seq_FW (gH BE _) (by kernel_rfl) rfl hst5 ?_
  generalize hT : pF xs = TT at *
  refine aops_step fun T S hT hS => ?_
  conv => whnf
  refine hT _ _ ?_
  refine aops_step fun T S hT hS => ?_
  conv => whnf
  refine ⟨_, ch, rfl, ?_⟩
  refine hT _ _ ?_
  refine aops_step fun T S hT hS => ?_
  conv => whnf
  refine hT _ _ ?_
  refine aops_end ?_
  refine ⟨rfl, fun a6 w6 c6 hst6 hs6 => ?_⟩
  refine wpIn_ret ?_
  have hgo : ∀ k, k < W.heap.size → k ≠ c3.ι 0 → k ≠ c3.ι 1 → w6.heap[k]? = W.heap[k]? := fun k hk n1 n2 => hs6.keep k hk (fun b y hy => by
   match b, hy with
   | 0, _ => exact fun e => n1 e.symm
   | 1, _ => exact fun e => n2 e.symm
   | b + 2, hy => cases hy)
  have hlD := (Array.getElem?_eq_some_iff.1 hK).1
  have hK6 : w6.heap[D]? = some (.deferred (some [])) := (hgo D hlD (by omega) (by omega)).trans hK
  have hc0 : CellsAt w6 (c6.ι 0) (ptC px py pb) t_api_Point := cellsAt_of (G := HHo BE fun _ => none) hst6.rel (b := 0) (es := 0) rfl rfl
  rw [(hs6.agree 0 (by show 0 < 2; omega)).1] at hc0
  have hput : ∀ k, k ≠ D → (w6.putObj D (.deferred none)).heap[k]? = w6.heap[k]? := fun k hk => World.putObj_heap_other (by omega)
  have hc7 : CellsAt (w6.putObj D (.deferred none)) (c3.ι 0) (ptC px py pb) t_api_Point := (hput _ (by omega)).trans hc0
  have hc1 : CellsAt w6 (c6.ι 1) (farT TT) t_curve_far := cellsAt_of (G := HHo BE fun _ => none) hst6.rel (b := 1) (es := 0) rfl rfl
  rw [(hs6.agree 1 (by show 1 < 2; omega)).1] at hc1
  have hc8 : CellsAt (w6.putObj D (.deferred none)) (c3.ι 1) (farT TT) t_curve_far := (hput _ (by omega)).trans hc1
  have hst8 : St (HHo BE fun _ => none) F_curve_Sum.ntmps (con2 (c3.ι 0) (c3.ι 1)) (mem2 (ptC px py pb) (farT TT) t_api_Point t_curve_far) [(2, .one (.ptr (some (.loc 0 0))))] a6 (w6.putObj D (.deferred none)) := st_names hst6 (rel2 hc7 hc8 hne rfl rfl) (by
   intro p hp
   simp only [List.mem_singleton] at hp
   subst hp
   exact ⟨_, rfl, by show Value.pointer (some ⟨c6.ι 0, 0, none⟩) = _; rw [(hs6.agree 0 (by show 0 < 2; omega)).1]; rfl, rfl⟩)
  obtain ⟨l, hl, hrun, _⟩ := ares_sound (gH BE _) hst8 F_curve_Sum.results.toList (fun l => outV l = ptV px py pb) (by
   conv => whnf
   rfl)
  have hBW : Below w.heap.size W w6 := ⟨hs6.same.os, hs6.same.tape, hs6.same.output, hs6.same.size, fun k hk => hgo k (Nat.lt_of_lt_of_le hk (Nat.le_trans hB3.size hB.size)) (by omega) (by omega)⟩
  have hBD : Below w.heap.size w6 (w6.putObj D (.deferred none)) := belowK_b (w := w3) hB3.size _ _ _ _ hD hK6 rfl rfl
  have hall := hB3.trans (hB.trans (hBW.trans hBD))
  refine ends_M (by show a6.defers ++ _ = _; rw [hst6.fits.defers]; rfl) hK6 rfl (results_run (G := (⟨PG, default, [], fun _ => none, fun _ => true⟩ : Ev.Cfg)) hrun) ?_
  rw [← hR, hl]
  exact ⟨ptV px py pb, BE, rfl, rfl, fun _ _ h => h.elim, fun _ _ h => h.elim, ⟨hall.size, hall.os, hall.tape, hall.output⟩, fun r hr => hall.block r hr, rfl⟩
 case stop =>
  rintro D c pre W _ _ h _
  exact h.elim

end Go.Hv

import Derived.Test.YtaochmekimkegaaItr
import Derived.Test.YtaochmekimkegaaCu9
namespace Go.Hv
open Go.Ev Go.Ec
open Go.RowKit (Below)

section
variable {G : Cfg} {N : Nat}

theorem st0 {fn : Func} {c : Con} {m : HM} {w : World} {args : List TV} (hr : Rel G.A c m w) (hcl : ∀ v ∈ args, v.closed m.bs.length = true) :
  St G fn.ntmps c m (ienv 0 args) { tmps := (args.map (TV.conc c)).toArray ++ Array.replicate (fn.ntmps - (args.map (TV.conc c)).toArray.size) undef, defers := [] } w := by
 refine ⟨hr, ⟨fun t v hv => ?_, rfl⟩, by simp; omega⟩
 obtain ⟨j, rfl, hj⟩ := ienv_get args 0 t v hv
 simp only [Nat.zero_add]
 have hlt : j < args.length := (List.getElem?_eq_some_iff.1 hj).1
 have hv' : args[j] = v := (List.getElem?_eq_some_iff.1 hj).2
 refine ⟨?_, hcl v (List.mem_of_getElem? hj)⟩
 simp [Array.getElem?_append, hlt, hv']

theorem st_reset {G' : Cfg} {c : Con} {m : HM} {e e' : Env} {a : Act} {w W : World} (h : St G' N c m e a w) (he : ∀ p ∈ e', Ev.get e p.1 = some p.2 ∧ p.2.closed 0 = true) (hA : BaseIn G.A W) : St G N Con0 M0 e' a W := by
 refine ⟨rel0 hA, ⟨fun t v hv => ?_, h.fits.defers⟩, h.size⟩
 obtain ⟨h1, h2⟩ := he (t, v) (get_mem hv)
 refine ⟨?_, h2⟩
 rw [(h.fits.get t v h1).1]
 exact TV.conc_agree (n := 0) (fun b hb => absurd hb (Nat.not_lt_zero b)) h2

theorem grow_of_since {c c' : Con} {m m' : HM} {w w' : World} (h : Since c m w c' m' w') (hm : m.bs = []) : w.grownBy w' none :=
 ⟨h.same.os, h.same.tape, h.same.output, h.same.size, fun k hk _ => h.keep k hk (fun b x hx => by rw [hm] at hx; cases hx)⟩

theorem below_of_grow {w w' : World} {n : Nat} (h : w.grownBy w' none) (hn : n ≤ w.heap.size) : Below n w w' :=
 ⟨h.os, h.tape, h.output, h.size, fun k hk => h.block k (by omega) (fun e => by cases e)⟩

theorem abide {β : Type} {B : Nat} {J : β → World → Prop} (hJ : AbidesFrom B J) {s : β} {w w' : World} (hs : J s w) (h : w.grownBy w' none) : J s w' :=
 hJ s w w' none hs h (fun r e => by cases e)

theorem seq_FW (hG : CfgOk G) {ro : Option Nat} {n : Nat} {ds : List Deferred} {x y : Code} {e : Env} {m : HM} {c : Con} {a : Act} {w : World} {Q' : Exit → Act → World → Prop} (hk : okCode G N x = true) (hp : plainC x = true) (hst : St G N c m e a w)
  (h : swpC G x (fun x e' m' => x = .normal ∧ ∀ a' w' c', St G N c' m' e' a' w' → Since c m w c' m' w' → y.wpIn (FW ro) n G.P Q' (actApp a' ds) w') e m) : (Code.seq x y).wpIn (FW ro) n G.P Q' (actApp a ds) w := by
 refine wpIn_seq (wpIn_mono (swp_FW hG x _ e m c a w hk hp (swpC_imp x (fun _ _ _ h => h) h) hst) fun ex a' w' hh => ?_)
 obtain ⟨a0, rfl, e', m', c', ⟨rfl, hy⟩, hst', hs⟩ := hh
 exact hy a0 w' c' hst' hs

theorem end_FW (hG : CfgOk G) {ro : Option Nat} {n : Nat} {ds : List Deferred} {x : Code} {e : Env} {m : HM} {c : Con} {a : Act} {w : World} {Q' : Exit → Act → World → Prop} (hk : okCode G N x = true) (hp : plainC x = true) (hst : St G N c m e a w)
  (h : swpC G x (fun x e' m' => x = .normal ∧ ∀ a' w' c', St G N c' m' e' a' w' → Since c m w c' m' w' → Q' .normal (actApp a' ds) w') e m) : x.wpIn (FW ro) n G.P Q' (actApp a ds) w := by
 refine wpIn_mono (swp_FW hG x _ e m c a w hk hp (swpC_imp x (fun _ _ _ h => h) h) hst) fun ex a' w' hh => ?_
 obtain ⟨a0, rfl, e', m', c', ⟨rfl, hy⟩, hst', hs⟩ := hh
 exact hy a0 w' c' hst' hs

end

abbrev Pnt := { t : Int × Int × Bool // InW t.1 ∧ InW t.2.1 }
def Pnt.cells (t : Pnt) : List Sc := ptC t.1.1 t.1.2.1 t.1.2.2

def itE (l k n : Nat) (q : TV) : Env := [(7, .one (.int .i64 (k : Int))), (6, .one (.int .i64 (n : Int))), (5, q), (0, .one (.raw (.func (.yield l) #[] #[])))]

set_option maxHeartbeats 1000000 in
set_option maxRecDepth 100000 in
theorem vals1_in {A : Base} {q : Sc} {L : List Pnt} (hs : Sl A 9 (.one q) (L.map Pnt.cells)) {Bs : Nat} (hbox : bcell A ⟨Bs, 0, none⟩ (q.conc Con0)) {n₀ n : Nat} (hA : ∀ r o, A r o → r < n₀) (l : Nat) (J Jx : List Pnt → World → Prop) (W : World)
  (hn : n₀ ≤ W.heap.size) (hAW : BaseIn A W) (hJ : AbidesFrom W.heap.size J) (hJx : AbidesFrom W.heap.size Jx)
  (hY : ∀ pre x W1, J pre W1 → pre.length < L.length → YieldAt (FW none) (n - 1) PG l #[(TV.agg (Pnt.cells x)).conc Con0] W1 fun e W' =>
   (e = .returned (.bool true) ∧ J (pre ++ [x]) W' ∧ Below n₀ W1 W') ∨ (e = .returned (.bool false) ∧ Jx (pre ++ [x]) W')) (h0 : J [] W) :
  CallsIn (FW none) n PG f_slices_Values___api_Point_api_Point__1 #[.func (.yield l) #[] #[], .pointer (some ⟨Bs, 0, none⟩)] W fun e W' => (∃ v, e = .returned v) ∧ ((∃ xs, xs = L ∧ J xs W') ∨ (∃ pre, True ∧ Jx pre W')) := by
 obtain ⟨p, cap, hq, g1, g2, g3⟩ := id hs
 have hml : (L.map Pnt.cells).length = L.length := List.length_map ..
 simp only [TV.one.injEq] at hq
 subst hq
 rw [hml] at hs g1 hbox
 have hqc : (TV.one (.slice p L.length cap)).closed 0 = true := hs.stable.1 0
 generalize hR : (fun (e : Ending) (W' : World) => (∃ v, e = .returned v) ∧ ((∃ xs, xs = L ∧ J xs W') ∨ (∃ pre, True ∧ Jx pre W'))) = R
 refine callsIn_of_wp (F := FW none) h_slices_Values___api_Point_api_Point__1 rfl trivial ?_ rfl
 have hst := st0 (G := HHo A fun _ => none) (fn := F_slices_Values___api_Point_api_Point__1) (c := Con0) (m := M0) (w := W) (args := [.one (.raw (.func (.yield l) #[] #[])), .one (.ptr (some (.ext ⟨Bs, 0, none⟩)))]) (rel0 hAW) (by
  intro v hv
  simp only [List.mem_cons, List.not_mem_nil, or_false] at hv
  rcases hv with rfl | rfl <;> rfl)
 suffices key : ∀ a0 : Act, St (HHo A fun _ => none) F_slices_Values___api_Point_api_Point__1.ntmps Con0 M0 (ienv 0 [.one (.raw (.func (.yield l) #[] #[])), .one (.ptr (some (.ext ⟨Bs, 0, none⟩)))]) a0 W →
   Code.wpIn (FW none) n PG (bodyOf F_slices_Values___api_Point_api_Point__1) (bodyPost PG F_slices_Values___api_Point_api_Point__1 R) (actApp a0 []) W by exact key _ hst
 clear hst
 intro a0 hst
 have sub : ∀ {k : Nat} {E : Env}, Ev.get E 7 = some (.one (.int .i64 (k : Int))) → Ev.get E 6 = some (.one (.int .i64 (L.length : Int))) → Ev.get E 5 = some (.one (.slice p L.length cap)) → Ev.get E 0 = some (.one (.raw (.func (.yield l) #[] #[]))) →
   ∀ x ∈ itE l k L.length (.one (.slice p L.length cap)), Ev.get E x.1 = some x.2 ∧ x.2.closed 0 = true := fun h7 h6 h5 h0 x hx => by
  simp only [itE, List.mem_cons, List.not_mem_nil, or_false] at hx
  rcases hx with rfl | rfl | rfl | rfl
  ·exact ⟨h7, rfl⟩
  ·exact ⟨h6, rfl⟩
  ·exact ⟨h5, hqc⟩
  ·exact ⟨h0, rfl⟩
 refine seq_FW (gH A _) (by kernel_rfl) rfl hst ?_
 refine aops_step fun T S hT hS => ?_
 conv => whnf
 refine ⟨_, ⟨_, bcell_le (Base.le_l _ _) hbox, hqc, rfl⟩, ?_⟩
 refine hT _ _ ?_
 iterate 2 (refine aops_step fun T S hT hS => ?_; (conv => whnf); refine hT _ _ ?_)
 refine aops_end ?_
 refine ⟨rfl, fun a1 w1 c1 hst1 hs1 => ?_⟩
 have hw1 := grow_of_since hs1 rfl
 refine wpIn_block (wpIn_loop (fun a wq => ∃ k a0, k ≤ L.length ∧ a = actApp a0 [] ∧ St (HHo A fun _ => none) F_slices_Values___api_Point_api_Point__1.ntmps Con0 M0 (itE l k L.length (.one (.slice p L.length cap))) a0 wq ∧ J (L.take k) wq ∧ Below n₀ W wq)
  (fun a _ => L.length - (Go.RowKit.intOf (a.tmps.getD 7 undef)).toNat) ?start ?round)
 case start =>
  refine ⟨0, a1, Nat.zero_le _, rfl, st_reset hst1 (sub rfl rfl rfl rfl) (baseIn_keep hAW fun r hr => hw1.block r hr (fun e => by cases e)), abide hJ h0 hw1, below_of_grow hw1 hn⟩
 rintro a wq ⟨k, a2, hk, rfl, hst2, hj, hbw⟩
 have hm7 : Go.RowKit.intOf ((actApp a2 []).tmps.getD 7 undef) = (k : Int) := by
  have := (hst2.fits.get 7 _ rfl).1
  show Go.RowKit.intOf (a2.tmps.getD 7 undef) = _
  rw [this]
  rfl
 rw [hm7, Int.toNat_natCast]
 refine seq_FW (gH A _) (by kernel_rfl) rfl hst2 ?_
 refine aops_step fun T S hT hS => ?_
 conv => whnf
 refine hT _ _ ?_
 refine aops_end ?_
 refine ⟨rfl, fun a3 w3 c3 hst3 hs3 => ?_⟩
 have hw3 := grow_of_since hs3 rfl
 have e8 := (hst3.fits.get 8 _ rfl).1
 by_cases hlt : k < L.length
 ·obtain ⟨ad, rfl⟩ : ∃ ad, p = some (.ext ad) := by
   match p, g3 with
   | none, g3 =>
    have := congrArg List.length g3.1
    rw [hml] at this
    simp at this
    omega
   | some (.ext ad), _ => exact ⟨ad, rfl⟩
  have hget : (L.map Pnt.cells)[k]? = some (Pnt.cells L[k]) := by rw [List.getElem?_map, List.getElem?_eq_getElem hlt]; rfl
  have htk : L.take (k + 1) = L.take k ++ [L[k]] := List.take_succ_eq_append_getElem hlt
  generalize L[k] = pt at *
  obtain ⟨⟨x, y, b⟩, hxy⟩ := pt
  rw [show decide ((k : Int) < (L.length : Int)) = true from decide_eq_true (by omega)] at e8
  refine wpIn_seq (wpIn_cond_true e8 (wpIn_skip ?_))
  show Code.wpIn _ _ _ _ _ _ _
  refine wpIn_seq (wpIn_block ?_)
  refine seq_FW (gH A _) (by kernel_rfl) rfl hst3 ?_
  refine aops_step fun T S hT hS => ?_
  conv => whnf
  rw [dec_idx (n := L.length) hlt]
  conv => whnf
  refine hT _ _ ?_
  refine aops_step fun T S hT hS => ?_
  conv => whnf
  refine ⟨_, ERead_l (hs.agg (i := k) hget), ?_⟩
  refine hT _ _ ?_
  iterate 2 (refine aops_step fun T S hT hS => ?_; (conv => whnf); refine hT _ _ ?_)
  refine aops_end ?_
  refine ⟨rfl, fun a4 w4 c4 hst4 hs4 => ?_⟩
  refine wpIn_seq (wpIn_region_list ?_)
  refine aop_FW (gH A _) rfl rfl rfl hst4 ?_
  conv => whnf
  intro c5 a5 w5 hst5 hs5
  refine aop_FW (gH A _) rfl rfl rfl hst5 ?_
  conv => whnf
  intro c6 a6 w6 hst6 hs6
  have hs36 := hs4.trans (hs5.trans hs6)
  have hw6 := grow_of_since hs36 rfl
  have hb6 := (hbw.trans (below_of_grow hw3 (Nat.le_trans hn hbw.size))).trans (below_of_grow hw6 (Nat.le_trans hn (Nat.le_trans hbw.size hs3.same.size)))
  obtain ⟨fn, tmps, assign, body, hy, hR3⟩ := hY (L.take k) ⟨(x, y, b), hxy⟩ w6 (abide hJ (abide hJ hj hw3) hw6) (by rw [List.length_take]; omega)
  have h11 := (hst6.fits.get 11 _ rfl).1
  have h12 := (hst6.fits.get 12 _ rfl).1
  show wpListIn _ _ _ _ _ [_, _] _ _
  unfold wpListIn
  rw [if_pos (by rfl)]
  refine wp_yield (a := actApp a6 []) rfl h11 h12 hy ?_
  refine ⟨fun hh => (by cases hh), hR3.mono fun e W3 hh => ?_⟩
  rcases hh with ⟨rfl, hJ3, hk3⟩ | ⟨rfl, hJ3⟩
  ·show wpListIn _ _ _ _ _ [_] ((actApp a6 []).put _ _) _
   rw [put_app]
   have hA3 : BaseIn A W3 := fun r o hr => (hk3.block r (hA r o hr)).trans ((hb6.block r (hA r o hr)).trans (hAW r o hr))
   have hst7 := (st_reset (G := HHo A fun _ => none) hst6 (sub rfl rfl rfl rfl) hA3).step (o := { dst := some 13, op := .move (.tmp 0), type := 0, pos := "", after := #[], guard := none }) (by kernel_rfl) (v := .one (.bool true)) (rel0 hA3) (Since.refl _ _ _) rfl
   refine aop_FW (gH A _) rfl rfl rfl hst7 ?_
   conv => whnf
   intro c8 a8 w8 hst8 hs8
   have hw8 := grow_of_since hs8 rfl
   have e14 := (hst8.fits.get 14 _ rfl).1
   show Code.wpIn _ _ _ _ _ _ _
   refine wpIn_cond_false e14 (wpIn_skip ?_)
   show Code.wpIn _ _ _ _ _ _ _
   refine end_FW (gH A _) (by kernel_rfl) rfl hst8 ?_
   iterate 2 (refine aops_step fun T S hT hS => ?_; (conv => whnf); refine hT _ _ ?_)
   refine aops_end ?_
   refine ⟨rfl, fun a9 w9 c9 hst9 hs9 => ?_⟩
   have hw9 := grow_of_since hs9 rfl
   have hbs8 := hk3.trans (below_of_grow hw8 (Nat.le_trans hn (Nat.le_trans hb6.size hk3.size)))
   have hbs9 := hbs8.trans (below_of_grow hw9 (Nat.le_trans hn (Nat.le_trans hb6.size hbs8.size)))
   have hA9 : BaseIn A w9 := fun r o hr => (hbs9.block r (hA r o hr)).trans ((hb6.block r (hA r o hr)).trans (hAW r o hr))
   have e7 := (hst9.fits.get 7 _ rfl).1
   refine ⟨⟨k + 1, a9, hlt, rfl, st_reset hst9 (sub (congrArg some (tv_inc (n := L.length) hlt g1.2).symm) rfl rfl rfl) hA9, ?_, hb6.trans hbs9⟩, ?_⟩
   ·rw [htk]
    exact abide hJ (abide hJ hJ3 hw8) hw9
   ·show L.length - (Go.RowKit.intOf (a9.tmps.getD 7 undef)).toNat < _
    rw [e7, show (TV.one (wr .i64 ((k : Int) + 1))).conc c9 = .int .i64 ((k + 1 : Nat) : Int) from by rw [← tv_inc (n := L.length) hlt g1.2]; rfl]
    show L.length - ((k + 1 : Nat) : Int).toNat < _
    rw [Int.toNat_natCast]
    omega
  ·show wpListIn _ _ _ _ _ [_] ((actApp a6 []).put _ _) _
   rw [put_app]
   have hA3 : BaseIn (fun _ _ => False) W3 := fun r o hr => hr.elim
   have hst7 := (st_reset (G := HHo (fun _ _ => False) fun _ => none) hst6 (sub rfl rfl rfl rfl) hA3).step (o := { dst := some 13, op := .move (.tmp 0), type := 0, pos := "", after := #[], guard := none }) (by kernel_rfl) (v := .one (.bool false)) (rel0 hA3) (Since.refl _ _ _) rfl
   refine aop_FW (G := HHo (fun _ _ => False) fun _ => none) (gH _ _) rfl rfl rfl hst7 ?_
   conv => whnf
   intro c8 a8 w8 hst8 hs8
   have hw8 := grow_of_since hs8 rfl
   have e14 := (hst8.fits.get 14 _ rfl).1
   show Code.wpIn _ _ _ _ _ _ _
   refine wpIn_cond_true e14 (wpIn_ret ?_)
   show bodyPost PG F_slices_Values___api_Point_api_Point__1 R .ret (actApp a8 []) w8
   rw [← hR]
   exact bodyPost_ret (results_none rfl _ _ _) (by show a8.defers ++ [] = []; rw [hst8.fits.defers]; rfl) ⟨⟨_, rfl⟩, .inr ⟨_, trivial, abide hJx hJ3 hw8⟩⟩
 ·have hk' : k = L.length := by omega
  subst hk'
  rw [show decide ((L.length : Int) < (L.length : Int)) = false from decide_eq_false (by omega)] at e8
  refine wpIn_seq (wpIn_cond_false e8 (wpIn_exit ?_))
  show if (0 : Nat) = 0 then bodyPost PG F_slices_Values___api_Point_api_Point__1 R .normal (actApp a3 []) w3 else bodyPost PG F_slices_Values___api_Point_api_Point__1 R (.exit 0) (actApp a3 []) w3
  rw [if_pos rfl, ← hR]
  exact bodyPost_end (results_none rfl _ _ _) (by show a3.defers ++ [] = []; rw [hst3.fits.defers]; rfl) ⟨⟨_, rfl⟩, .inl ⟨_, rfl, by rw [← List.take_length (l := L)]; exact abide hJ hj hw3⟩⟩

theorem values_stops {A : Base} {q : Sc} {L : List Pnt} (hs : Sl A 9 (.one q) (L.map Pnt.cells)) {Bs : Nat} (hbox : bcell A ⟨Bs, 0, none⟩ (q.conc Con0)) {n₀ n : Nat} (hA : ∀ r o, A r o → r < n₀) {w : World} (hn : n₀ ≤ w.heap.size) (hAW : BaseIn A w) :
  SeqStopsK (FW none) n PG f_slices_Values___api_Point_api_Point__1 #[.pointer (some ⟨Bs, 0, none⟩)] (fun x : Pnt => #[(TV.agg x.cells).conc Con0]) (Below n₀) (fun ys => ys = L) (fun _ => True) L.length w :=
 fun l J Jx W hb hJ hJx hY h0 => vals1_in hs hbox hA l J Jx W (Nat.le_trans hn hb.size) (fun r o hr => (hb.block r (Nat.lt_of_lt_of_le (hA r o hr) hn)).trans (hAW r o hr)) hJ hJx hY h0

section
variable {G : Cfg} {N : Nat}

def CellsAt (W : World) (r : Nat) (l : List Sc) (t : TypeId) : Prop := W.heap[r]? = some (.cells (l.map (Sc.conc Con0)).toArray t (0, 0))

theorem CellsAt.lt {W : World} {r : Nat} {l : List Sc} {t : TypeId} (h : CellsAt W r l t) : r < W.heap.size := (Array.getElem?_eq_some_iff.1 h).1

theorem cellsAt_own {β : Type} (B r : Nat) (l : β → List Sc) (t : TypeId) : OwnFrom B (fun s W => CellsAt W r (l s) t) := fun s X Y row hs hg hr =>
 (hg.block r (CellsAt.lt hs) (fun e => by
  obtain ⟨_, o, ho, hc⟩ := hr r e.symm
  rw [show X.heap[r]? = _ from hs] at ho
  cases ho
  cases hc)).trans hs

theorem concs0 (c : Con) {l : List Sc} (h : closedL 0 l = true) : l.map (Sc.conc c) = l.map (Sc.conc Con0) :=
 List.map_congr_left fun s hs => Sc.conc_agree (n := 0) (fun b hb => absurd hb (Nat.not_lt_zero b)) (closedL_iff.1 h s hs)

theorem cellsAt_of {c : Con} {m : HM} {w : World} (h : Rel G.A c m w) {b : Nat} {l : List Sc} {t es : Nat} (hb : nth m.bs b = some ⟨l, t, es, false⟩) (hl : closedL 0 l = true) : CellsAt w (c.ι b) l t := by
 obtain ⟨junk, h1, h2, _⟩ := h.blk b _ hb
 rw [h2 rfl, List.append_nil, concs0 c hl] at h1
 exact h1

def con2 (r0 r1 : Nat) : Con := ⟨fun b => match b with | 0 => r0 | _ => r1, fun _ => 0⟩
def mem2 (l0 l1 : List Sc) (t0 t1 : TypeId) : HM := ⟨[some ⟨l0, t0, 0, false⟩, some ⟨l1, t1, 0, false⟩], B0⟩
abbrev BE : Base := fun _ _ => False

theorem rel2 {W : World} {r0 r1 : Nat} {l0 l1 : List Sc} {t0 t1 : TypeId} (h0 : CellsAt W r0 l0 t0) (h1 : CellsAt W r1 l1 t1) (hne : r0 ≠ r1) (c0 : closedL 0 l0 = true) (c1 : closedL 0 l1 = true) : Rel BE (con2 r0 r1) (mem2 l0 l1 t0 t1) W := by
 have cl2 : ∀ {l : List Sc}, closedL 0 l = true → closedL 2 l = true := fun h => closedL_iff.2 fun s hs => by
  have := closedL_iff.1 h s hs
  exact Sc.closed_mono (Nat.zero_le 2) this
 refine ⟨fun b x hx => ?_, fun b x hx => ?_, fun a b x y hx hy e => ?_, fun b hb => ?_, fun _ _ h => h.elim, fun _ _ h => h.elim, fun _ _ _ _ h => h, fun _ _ _ _ h => h⟩
 ·match b, hx with
  | 0, hx => cases hx; exact ⟨[], by rw [concs0 _ c0, List.append_nil]; exact h0, fun _ => rfl, fun h => by cases h⟩
  | 1, hx => cases hx; exact ⟨[], by rw [concs0 _ c1, List.append_nil]; exact h1, fun _ => rfl, fun h => by cases h⟩
  | b + 2, hx => cases hx
 ·match b, hx with
  | 0, hx => cases hx; exact cl2 c0
  | 1, hx => cases hx; exact cl2 c1
  | b + 2, hx => cases hx
 ·match a, b, hx, hy with
  | 0, 0, _, _ => rfl
  | 1, 1, _, _ => rfl
  | 0, 1, _, _ => exact absurd e hne
  | 1, 0, _, _ => exact absurd e.symm hne
  | a + 2, _, hx, _ => cases hx
  | _, b + 2, _, hy => cases hy
 ·match b, hb with
  | 0, _ => exact h0.lt
  | 1, _ => exact h1.lt
  | b + 2, hb => exact absurd hb (by show ¬ b + 2 < 2; omega)

theorem st_names {G' : Cfg} {c c' : Con} {m m' : HM} {e e' : Env} {a : Act} {w W : World} (h : St G N c m e a w) (hr : Rel G'.A c' m' W) (he : ∀ p ∈ e', ∃ v, Ev.get e p.1 = some v ∧ v.conc c = p.2.conc c' ∧ p.2.closed m'.bs.length = true) : St G' N c' m' e' a W := by
 refine ⟨hr, ⟨fun t v hv => ?_, h.fits.defers⟩, h.size⟩
 obtain ⟨u, h1, h2, h3⟩ := he (t, v) (get_mem hv)
 exact ⟨((h.fits.get t u h1).1).trans h2, h3⟩

end
end Go.Hv

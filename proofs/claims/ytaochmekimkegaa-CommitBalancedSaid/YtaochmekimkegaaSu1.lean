import Derived.Test.YtaochmekimkegaaItv
import Derived.Test.YtaochmekimkegaaCm1
namespace Go.Hv
open Go.Ev Go.Ec
open Go.RowKit (Below)

noncomputable def Pnt.pt (t : Pnt) : Pt PPn := tkn t.1.1 t.1.2.1 t.1.2.2
noncomputable def Pnt.far (t : Pnt) : KK × KK × KK := outT t.pt
noncomputable def psum (L : List Pnt) : Pt PPn := L.foldl (fun P t => add P t.pt) none
noncomputable def pF (L : List Pnt) : KK × KK × KK := L.foldl (fun T t => pl T t.far) (0, 0, 0)

theorem pF_hm : ∀ (L : List Pnt) (T : KK × KK × KK) (P : Pt PPn), On P → hm T = P → hm (L.foldl (fun T t => pl T t.far) T) = L.foldl (fun P t => add P t.pt) P ∧ On (L.foldl (fun P t => add P t.pt) P)
 | [], T, P, hP, h => ⟨h, hP⟩
 | t :: L, T, P, hP, h => by
  have h2 : On t.pt := tkn_on _ _ _
  have h1 : hm t.far = t.pt := hm_out _
  have e := hm_pl fld T t.far (by rw [h]; exact hP) (by rw [h1]; exact h2)
  rw [h, h1] at e
  have e2 := add_on fld _ _ hP h2
  rw [List.foldl_cons, List.foldl_cons]
  generalize pl T t.far = T2 at *
  generalize add P t.pt = P2 at *
  exact pF_hm L T2 P2 e2 e

theorem psum_on (L : List Pnt) : On (psum L) := (pF_hm L (0, 0, 0) none trivial (hm_z rfl)).2
theorem pF_psum (L : List Pnt) : hm (pF L) = psum L := (pF_hm L (0, 0, 0) none trivial (hm_z rfl)).1
theorem pF_snoc (L : List Pnt) (x : Pnt) : pF (L ++ [x]) = pl (pF L) x.far := by
 unfold pF
 rw [List.foldl_append, List.foldl_cons, List.foldl_nil]
theorem psum_succ (L : List Pnt) {i : Nat} (h : i < L.length) : psum (L.take (i + 1)) = add (psum (L.take i)) L[i].pt := by
 unfold psum
 rw [List.take_succ_eq_append_getElem h, List.foldl_append, List.foldl_cons, List.foldl_nil]
theorem msum_succ (L : List Trm) {i : Nat} (h : i < L.length) : msum (L.take (i + 1)) = add (msum (L.take i)) L[i].pt := by
 unfold msum
 rw [List.take_succ_eq_append_getElem h, List.foldl_append, List.foldl_cons, List.foldl_nil]

theorem run_makeFuncOp {P : Program} {o : Oper} {a : Act} {w : World} {g t1 : Nat} (ho : o.op = .makeFunc (.func g) #[] #[.tmp t1]) :
  (execOp a.eval o).run P w = .ok (.value (.func (.func g) #[] #[a.tmps.getD t1 undef])) w := by
 simp [execOp, ho, Act.eval, Instr.makeFunc]

theorem wp_val {P : Program} {ro : Option Nat} {n : Nat} {o : Oper} {a : Act} {w : World} {v : Value} {next : Act → World → Prop} {Q : Exit → Act → World → Prop} (ho : notDefer o = true)
  (hr : (execOp a.eval o).run P w = .ok (.value v) w) (h : next (a.put o.dst v) w) : o.wpIn (FW ro) n P a w next Q := by
 refine ⟨fun _ _ => trivial, ?_⟩
 have hs : o.semAt ro a.eval = execOp a.eval o := Oper.semAt_eq ro _ o (fun c hc => by simp [notDefer, hc] at ho)
 show o.uponIn (FW ro) n P a next Q ((o.semAt ro a.eval).run P w)
 rw [hs, hr]
 exact h

set_option maxHeartbeats 1000000 in
set_option maxRecDepth 100000 in
theorem slValues_hc {A : Base} {q : Sc} (hq : q.closed 0 = true) : HC PG A f_slices_Values___api_Point_api_Point_ [.one q] fun v N => ∃ r, v = .one (.raw (.func (.func f_slices_Values___api_Point_api_Point__1) #[] #[.pointer (some ⟨r, 0, none⟩)])) ∧ bcell N ⟨r, 0, none⟩ (q.conc Con0) := by
 refine ⟨enters_of h_slices_Values___api_Point_api_Point_ rfl rfl, fun w hw => ?_⟩
 generalize hR : (fun (e : Ending) (w' : World) => ∃ v N, e = .returned (v.conc Con0) ∧ v.closed 0 = true ∧
  BaseIn N w' ∧ (∀ r o, N r o → w.heap.size ≤ r) ∧ Same w w' ∧ (∀ r, r < w.heap.size → w'.heap[r]? = w.heap[r]?) ∧ ∃ r, v = TV.one (.raw (.func (.func f_slices_Values___api_Point_api_Point__1) #[] #[.pointer (some ⟨r, 0, none⟩)])) ∧ bcell N ⟨r, 0, none⟩ (q.conc Con0)) = R
 refine (callsIn_wide (n := 1)).1 (callsIn_of_wp (F := FW none) h_slices_Values___api_Point_api_Point_ rfl trivial ?_ rfl)
 have hst := st0 (G := HHo A fun _ => none) (fn := F_slices_Values___api_Point_api_Point_) (c := Con0) (m := M0) (w := w) (args := [.one q]) (rel0 hw) (by
  intro v hv
  simp only [List.mem_singleton] at hv
  subst hv
  exact hq)
 suffices key : ∀ a0 : Act, St (HHo A fun _ => none) F_slices_Values___api_Point_api_Point_.ntmps Con0 M0 (ienv 0 [.one q]) a0 w →
   Code.wpIn (FW none) 1 PG (bodyOf F_slices_Values___api_Point_api_Point_) (bodyPost PG F_slices_Values___api_Point_api_Point_ R) (actApp a0 []) w by exact key _ hst
 clear hst
 intro a0 hst
 refine seq_FW (gH A _) (by kernel_rfl) rfl hst ?_
 iterate 2 (refine aops_step fun T S hT hS => ?_; (conv => whnf); refine hT _ _ ?_)
 refine aops_end ?_
 refine ⟨rfl, fun a1 w1 c1 hst1 hs1 => ?_⟩
 have h1 := (hst1.fits.get 1 _ rfl).1
 have hblk := hst1.rel.blk 0 _ rfl
 obtain ⟨junk, hb1, hb2, _⟩ := hblk
 rw [hb2 rfl, List.append_nil] at hb1
 have hfr := hs1.fresh 0 _ rfl (Nat.zero_le _)
 have hfr : w.heap.size ≤ c1.ι 0 := by
  rcases hfr with h | ⟨d, y, hd, _⟩
  ·exact h
  ·cases d <;> cases hd
 refine wpIn_seq (wpIn_region_list ?_)
 show wpListIn _ _ _ _ _ [_, _] _ _
 unfold wpListIn
 rw [if_pos (by rfl)]
 refine wp_val (a := actApp a1 []) rfl (run_makeFuncOp rfl) ?_
 rw [show (actApp a1 []).tmps.getD 1 undef = _ from h1]
 show wpListIn _ _ _ _ _ [_] ((actApp a1 []).put _ _) _
 rw [put_app]
 have hst2 := hst1.step (o := { dst := some 3, op := .move (.tmp 0), type := 0, pos := "", after := #[], guard := none }) (by kernel_rfl) (v := .one (.raw (.func (.func f_slices_Values___api_Point_api_Point__1) #[] #[.pointer (some ⟨c1.ι 0, 0, none⟩)]))) hst1.rel (Since.refl _ _ _) rfl
 refine aop_FW (G := HHo A fun _ => none) (gH A _) rfl rfl rfl hst2 ?_
 conv => whnf
 intro c3 a3 w3 hst3 hs3
 have hs := hs1.trans hs3
 have hw3 := hs3.keep (c1.ι 0)
 have h3 := (hst3.fits.get 2 _ rfl).1
 refine wpIn_ret ?_
 show bodyPost PG F_slices_Values___api_Point_api_Point_ R .ret (actApp a3 []) w3
 refine bodyPost_ret (results_tmp rfl _ _ _) (by show a3.defers ++ [] = []; rw [hst3.fits.defers]; rfl) ?_
 show R (.returned (a3.tmps.getD 2 undef)) w3
 rw [h3, ← hR]
 obtain ⟨junk3, hb31, hb32, _⟩ := hst3.rel.blk 0 _ rfl
 rw [hb32 rfl, List.append_nil, (hs3.agree 0 Nat.zero_lt_one).1] at hb31
 refine ⟨_, fun r o => r = c1.ι 0 ∧ w3.heap[r]? = some o, rfl, rfl, fun r o h => h.2, fun r o h => by rw [h.1]; exact hfr, hs.same, fun r hr => hs.keep r hr (fun b x hx => by cases b <;> cases hx), c1.ι 0, rfl, ⟨_, _, _, ⟨rfl, hb31⟩, rfl, ?_⟩⟩
 have : q.conc c3 = q.conc Con0 := Sc.conc_agree (n := 0) (fun b hb => absurd hb (Nat.not_lt_zero b)) hq
 rw [← this]
 rfl

end Go.Hv

/- CommitHides is proved: for every input the law returns true and its input reads as before; the two tables of numbers hold what the program's text says (the card). No conditions. -/
import Derived.Test.YtaochmekimkegaaDoorCards
import Derived.Test.YtaochmekimkegaaDoorTie
import Derived.Deep.DeepHandedRow
import Derived.Lib.LaidTab
import Derived.Test.YtaochmekimkegaaDoorLaw
import Derived.Test.YtaochmekimkegaaDoorOpW
import Derived.Test.YtaochmekimkegaaDoorCm8
namespace Go.Proofs.YtaochmekimkegaaDoor
open Go.ChangeShapes Go.WideShapes Go.ChangeAt Go.RowKit Go.Ev

theorem own : ownKnob Tryd.prog.godebug = none := by kernel_rfl
theorem laidOut : laidOutB Tryd.prog = true := by kernel_rfl
theorem gTab0 : Tryd.prog.globalNamed "tollhouse/tollhouseref01.table" = some g_ref01_table := by kernel_rfl
theorem gType0 : (Tryd.prog.globals[g_ref01_table]?).map (·.type) = some t_a64_uint32 := by kernel_rfl
theorem gTab1 : Tryd.prog.globalNamed "tollhouse/sha.table" = some g_sha_table := by kernel_rfl
theorem gType1 : (Tryd.prog.globals[g_sha_table]?).map (·.type) = some t_a64_uint32 := by kernel_rfl
theorem uTab : Tryd.prog.underlying t_a64_uint32 = some (.array 64 t_uint32) := by kernel_rfl
theorem uU32 : Tryd.prog.underlying t_uint32 = some (.int .u32) := by kernel_rfl
theorem cU32 : Tryd.prog.cellsOf t_uint32 = 1 := by kernel_rfl
theorem cTab : Tryd.prog.cellsOf t_a64_uint32 = 64 := by kernel_rfl

theorem second {P : Program} {W : World} {x : String × DataW Unit} {name : String} {k : IntKind} {zs : List Int} {g t e n : Nat}
    (hg : P.globalNamed name = some g) (hty : (P.globals[g]?).map (·.type) = some t) (ht : P.underlying t = some (.array n e)) (he : P.underlying e = some (.int k)) (hce : P.cellsOf e = 1) (hct : P.cellsOf t = n)
    (h : laidMet P [x, (name, Lib.tabData k zs)] W) : Lib.TabIs P W name k zs := by
  obtain ⟨ps, ⟨_, _, _, _, _, q0, _, _, _, _, ⟨g', t', cs, fuel, p, q, hg', ht', hvar, hd, _, _⟩, _⟩, _⟩ := h
  obtain rfl := Option.some.inj (hg.symm.trans hg')
  obtain rfl := Option.some.inj (hty.symm.trans ht')
  unfold Lib.TabIs
  rw [hvar, ← Lib.cells_of_tab ht he hce hct hd]

theorem table0 {W : World} (h : laidMetH Tryd.prog Rows.commitHidesRow.laid W) : Lib.TabIs Tryd.prog W "tollhouse/tollhouseref01.table" .u32 Hv.tabK :=
  Lib.tabIs_of_head (rest := [("tollhouse/sha.table", Lib.tabData .u32 Hv.tabK)]) gTab0 gType0 uTab uU32 cU32 cTab h
theorem table1 {W : World} (h : laidMetH Tryd.prog Rows.commitHidesRow.laid W) : Lib.TabIs Tryd.prog W "tollhouse/sha.table" .u32 Hv.tabK :=
  second (x := ("tollhouse/tollhouseref01.table", Lib.tabData .u32 Hv.tabK)) gTab1 gType1 uTab uU32 cU32 cTab h

theorem tabRead {W : World} {name : String} {g : Nat} (h : Lib.TabIs Tryd.prog W name .u32 Hv.tabK) (hg : Tryd.prog.globalNamed name = some g) :
    Hv.ERead (fun r o => W.heap[r]? = some o) true 64 ⟨g, 0, none⟩ (.agg (Hv.tabK.map Hv.w32)) :=
  ⟨Hv.tabK.map Hv.w32, rfl, fun i s hi => by
    rw [List.getElem?_map, Option.map_eq_some_iff] at hi
    obtain ⟨z, hz, rfl⟩ := hi
    have hlt := (List.getElem?_eq_some_iff.1 hz).1
    have := h.cell hg i hlt
    rw [List.getD_eq_getElem?_getD, hz] at this
    rw [Hv.addr_off, Nat.zero_add]
    exact Hv.bcell_of_cell this, Hv.ints_cl .u32 Hv.tabK 0, rfl⟩

set_option maxRecDepth 100000 in
theorem commitHides_contract (H : Type) (enc : TypeId × Value → H) (W : World) (base : Nat) (args : Array Value) (ds gs : List (DataW H)) (before : List MemPlace)
    (hval0 : ∀ (j : Nat) t v, Tryd.f4.params[j]? = some t → args[j]? = some v → Value.okWide Tryd.prog W .any base t v)
    (hW : DataW.Whole enc Tryd.prog Tryd.f4.params.toList Rows.commitHidesSpec.vars false W args.toList ds gs before) (hL : laidMetH Tryd.prog Rows.commitHidesRow.laid W) :
    Calls Tryd.prog 4 args W fun e W' => ∃ v, e = .returned v ∧ Rows.commitHidesSpec.post enc Tryd.prog Tryd.f4 false true false false W args v W' := by
  have hTb : Hv.Tab (fun r o => W.heap[r]? = some o) := tabRead (table1 hL) gTab1
  have hT0 : Hv.Tab0 (fun r o => W.heap[r]? = some o) := tabRead (table0 hL) gTab0
  have hval : ∀ (j : Nat) t v, Tryd.f4.params[j]? = some t → args[j]? = some v → Value.okWide Tryd.prog W .any base t v := hval0
  have hW' := hW
  obtain ⟨p, q, hA0, hV, rfl, hfz, hnd⟩ := hW
  have hA : DataW.TrodAll enc Tryd.prog W 0 (fun _ => true) true Tryd.f4.params.toList args.toList ds p := hA0
  rw [Tryd.params4] at hA hval
  obtain ⟨v0, vs0, d0, ds0, p0, q0, hargs, rfl, rfl, h0, r0⟩ := trodAll_cons hA
  obtain ⟨v1, vs1, d1, ds1, p1, q1, rfl, rfl, rfl, h1, r1⟩ := trodAll_cons r0
  obtain ⟨v2, vs2, d2, ds2, p2, q2, rfl, rfl, rfl, h2, r2⟩ := trodAll_cons r1
  obtain ⟨rfl, rfl, rfl⟩ := trodAll_nil r2
  obtain rfl : args = #[v0, v1, v2] := by cases args; simp_all
  obtain ⟨rfl, rfl⟩ := trodVars_none hV
  obtain ⟨D0, w0, s0, t0, hD0, hw0, iw0, is0, it0, e0, _⟩ := Hv.open_op Tryd.underlying40 rfl Tryd.underlying23 Tryd.underlying5 (by kernel_rfl) (by kernel_rfl) Tryd.underlying24 (by kernel_rfl) Tryd.underlying27 (by kernel_rfl) (by kernel_rfl) (hval 0 40 v0 rfl rfl) h0
  obtain ⟨b1, e1, _⟩ := Hv.open_bool Tryd.underlying4 (hval 1 4 v1 rfl rfl) h1
  obtain ⟨b2, e2, _⟩ := Hv.open_bool Tryd.underlying4 (hval 2 4 v2 rfl rfl) h2
  subst e0; subst e1; subst e2
  have hcall := Hv.calls_of_HC' (Hv.lawCommitHides_hc hTb hT0 hD0 hw0 iw0 is0 it0 b1 b2)
  refine hcall.mono fun e W' ⟨he, hb⟩ => ?_
  exact ⟨_, he, law_post laidOut (by kernel_rfl) rfl Tryd.underlying4 rfl hW' ⟨rfl, rfl, rfl⟩ hb⟩

noncomputable def tabCells : Obj → Obj
  | .cells _ t frozen => .cells (Hv.tabK.map (Value.int .u32)).toArray t frozen
  | o => o
/-- A world for the witness: the tables hold what their initialisers lay. -/
noncomputable def laidWorld (os : Os) : World :=
  { World.holding Tryd.prog os ⟨#[], #[], []⟩ with heap := ((World.holding Tryd.prog os ⟨#[], #[], []⟩).heap.modify g_ref01_table tabCells).modify g_sha_table tabCells }
noncomputable def wargs : Array Value := #[.agg #[.int .u8 0, .int .u8 0, .int .u8 0, .int .u8 0, .int .u8 0, .int .u8 0, .int .u8 0, .int .u8 0, .int .u8 0, .int .u8 0, .int .u8 0, .int .u8 0, .int .u8 0, .int .u8 0, .int .u8 0, .int .u8 0, .int .u8 0, .int .u8 0, .int .u8 0, .int .u8 0, .int .u8 0, .int .u8 0, .int .u8 0, .int .u8 0, .int .u8 0, .int .u8 0, .int .u8 0, .int .u8 0, .int .u8 0, .int .u8 0, .int .u8 0, .int .u8 0, .int .u64 0, .int .u64 0, .int .u64 0, .int .u64 0, .int .u64 0, .int .u64 0, .int .u64 0, .int .u64 0, .int .u64 0], .bool false, .bool false]
set_option maxRecDepth 100000 in
theorem laid_met (os : Os) : laidMet Tryd.prog Rows.commitHidesRow.laid ((laidWorld os).forCall (fun _ _ => 0) ⟨#[], wargs, []⟩).memory :=
  laidMet_of_run' 8 (by kernel_rfl) (by kernel_rfl)
set_option maxRecDepth 100000 in
theorem reads (os : Os) {H : Type} (enc : TypeId × Value → H) : ∃ places, DataW.whole enc Tryd.prog ((laidWorld os).forCall (fun _ _ => 0) ⟨#[], wargs, []⟩).memory Tryd.f4.params.toList Rows.commitHidesSpec.vars false wargs.toList 8 = some ([.agg [.agg (List.replicate 32 (.lit (.int .u8 0))), .lit (.int .u64 0), .agg (List.replicate 4 (.lit (.int .u64 0))), .agg (List.replicate 4 (.lit (.int .u64 0)))], .lit (.bool false), .lit (.bool false)], [], places) :=
  ⟨[], by kernel_rfl⟩

set_option maxRecDepth 100000 in
theorem commitHides_lifted (os : Os) (started : os.Started) (H : Type) (enc : TypeId × Value → H) (F : Stop.Interp) :
    ReturnsInHanded {} Tryd.checked os 4 .any ((OpenSpec.ofChange Rows.commitHidesSpec).preRow enc Tryd.prog Tryd.f4 Rows.commitHidesRow.domain false Rows.commitHidesRow.laid) (((OpenSpec.ofChange Rows.commitHidesSpec).at F).post enc Tryd.prog Tryd.f4 false true false false) := by
  obtain ⟨places, hx⟩ := reads os enc
  refine returnsInHanded_of_row (C := Tryd.checked) (s := OpenSpec.ofChange Rows.commitHidesSpec) own started (by kernel_rfl) Tryd.func4
    (witness_row_at (enc := enc) (C := Tryd.checked) false (laidWorld os) wargs rfl (by kernel_rfl) (by kernel_rfl) (by kernel_rfl)
      (OpenSpec.preRow_of_cond 8 hx (by kernel_rfl) (fun k hk => by cases hk) (by kernel_rfl) (laid_met os))) ?_
  intro W base args ds gs before hval hW _ _ _ hL _ _
  exact commitHides_contract H enc W base args ds gs before hval hW hL

theorem commitHides_said : Rows.CommitHidesSaid :=
  OpenClaim.holds_of_cond 4 Tryd.f4 rfl rfl rfl rfl rfl rfl rfl ⟨rfl, rfl, rfl, rfl, rfl⟩ rfl rfl rfl rfl rfl (by kernel_rfl) Tryd.func4 (by kernel_rfl)
    (of_decide_eq_true (by kernel_rfl)) (by unfold Func.isWrapper; first | (rw [if_pos (by decide +kernel)]; kernel_rfl) | (rw [if_neg (by decide +kernel)]; exact ⟨rfl, rfl⟩))
    (fun os started H enc _ F => by rw [OpenClaim.pre_eq_preRow]; exact commitHides_lifted os started H enc F)

theorem plain (f : FuncId) (fn : Func) (hf : Tryd.pinned.checked.prog.funcNamed "tollhouse/tollhouselaw07.CommitHides" = some f) (hfn : Tryd.pinned.checked.prog.funcs[f]? = some fn) :
    false = Tryd.pinned.checked.prog.looks [] ∧ ∀ (j : Nat) t, fn.params[j]? = some t → Tryd.pinned.checked.prog.wantsStandIn t = false := by
  obtain rfl : f = 4 := Option.some.inj ((show Tryd.prog.funcNamed "tollhouse/tollhouselaw07.CommitHides" = some 4 by kernel_rfl).symm.trans hf) |>.symm
  obtain rfl : fn = Tryd.f4 := (Option.some.inj (Tryd.func4.symm.trans hfn)).symm
  refine ⟨by kernel_rfl, fun j t ht => ?_⟩
  rw [Tryd.params4] at ht
  have hm : t ∈ [40, 4, 4] := by simpa using Array.mem_of_getElem? ht
  have hall : ([40, 4, 4].all fun u => !Tryd.prog.wantsStandIn u) = true := by kernel_rfl
  exact (show Tryd.prog.wantsStandIn t = false by simpa using List.all_eq_true.1 hall t hm)

theorem commitHides_holds : Rows.CommitHidesCardSaid :=
  Claim7.holds_tied_plain_at .later [] _ _ _ _ commitHides_said (fun _ h => by cases h) (by kernel_rfl) (fun _ h => by cases h) commitHides_row_tie rfl ⟨rfl, rfl⟩ (by kernel_rfl) rfl plain (by kernel_rfl)
end Go.Proofs.YtaochmekimkegaaDoor


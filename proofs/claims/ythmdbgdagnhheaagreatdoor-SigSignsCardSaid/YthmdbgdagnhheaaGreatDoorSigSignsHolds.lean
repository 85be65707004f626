/- SigSigns is proved: for every input the law returns true and its input reads as before; the two tables of numbers hold what the program's text says (the card). No conditions. -/
import Derived.Test.YthmdbgdagnhheaaGreatDoorCards
import Derived.Test.YthmdbgdagnhheaaGreatDoorTie
import Derived.Deep.DeepHandedRow
import Derived.Lib.LaidTab
import Derived.Test.YthmdbgdagnhheaaGreatDoorLaw
import Derived.Test.YthmdbgdagnhheaaGreatDoorOpW
import Derived.Test.YthmdbgdagnhheaaGreatDoorOpY
import Derived.Test.YthmdbgdagnhheaaGreatDoorSr6
namespace Go.Proofs.YthmdbgdagnhheaaGreatDoor
open Go.ChangeShapes Go.WideShapes Go.ChangeAt Go.RowKit Go.Ev

theorem own : ownKnob Tryz.prog.godebug = none := by kernel_rfl
theorem laidOut : laidOutB Tryz.prog = true := by kernel_rfl
theorem gTab0 : Tryz.prog.globalNamed "tollhouse/tollhouseref01.table" = some g_ref01_table := by kernel_rfl
theorem gType0 : (Tryz.prog.globals[g_ref01_table]?).map (·.type) = some t_a64_uint32 := by kernel_rfl
theorem gTab1 : Tryz.prog.globalNamed "tollhouse/sha.table" = some g_sha_table := by kernel_rfl
theorem gType1 : (Tryz.prog.globals[g_sha_table]?).map (·.type) = some t_a64_uint32 := by kernel_rfl
theorem uTab : Tryz.prog.underlying t_a64_uint32 = some (.array 64 t_uint32) := by kernel_rfl
theorem uU32 : Tryz.prog.underlying t_uint32 = some (.int .u32) := by kernel_rfl
theorem cU32 : Tryz.prog.cellsOf t_uint32 = 1 := by kernel_rfl
theorem cTab : Tryz.prog.cellsOf t_a64_uint32 = 64 := by kernel_rfl

theorem second {P : Program} {W : World} {x : String × DataW Unit} {name : String} {k : IntKind} {zs : List Int} {g t e n : Nat}
    (hg : P.globalNamed name = some g) (hty : (P.globals[g]?).map (·.type) = some t) (ht : P.underlying t = some (.array n e)) (he : P.underlying e = some (.int k)) (hce : P.cellsOf e = 1) (hct : P.cellsOf t = n)
    (h : laidMet P [x, (name, Lib.tabData k zs)] W) : Lib.TabIs P W name k zs := by
  obtain ⟨ps, ⟨_, _, _, _, _, q0, _, _, _, _, ⟨g', t', cs, fuel, p, q, hg', ht', hvar, hd, _, _⟩, _⟩, _⟩ := h
  obtain rfl := Option.some.inj (hg.symm.trans hg')
  obtain rfl := Option.some.inj (hty.symm.trans ht')
  unfold Lib.TabIs
  rw [hvar, ← Lib.cells_of_tab ht he hce hct hd]

theorem table0 {W : World} (h : laidMetH Tryz.prog Rows.sigSignsRow.laid W) : Lib.TabIs Tryz.prog W "tollhouse/tollhouseref01.table" .u32 Hv.tabK :=
  Lib.tabIs_of_head (rest := [("tollhouse/sha.table", Lib.tabData .u32 Hv.tabK)]) gTab0 gType0 uTab uU32 cU32 cTab h
theorem table1 {W : World} (h : laidMetH Tryz.prog Rows.sigSignsRow.laid W) : Lib.TabIs Tryz.prog W "tollhouse/sha.table" .u32 Hv.tabK :=
  second (x := ("tollhouse/tollhouseref01.table", Lib.tabData .u32 Hv.tabK)) gTab1 gType1 uTab uU32 cU32 cTab h

theorem tabRead {W : World} {name : String} {g : Nat} (h : Lib.TabIs Tryz.prog W name .u32 Hv.tabK) (hg : Tryz.prog.globalNamed name = some g) :
    Hv.ERead (fun r o => W.heap[r]? = some o) true 64 ⟨g, 0, none⟩ (.agg (Hv.tabK.map Hv.w32)) :=
  ⟨Hv.tabK.map Hv.w32, rfl, fun i s hi => by
    rw [List.getElem?_map, Option.map_eq_some_iff] at hi
    obtain ⟨z, hz, rfl⟩ := hi
    have hlt := (List.getElem?_eq_some_iff.1 hz).1
    have := h.cell hg i hlt
    rw [List.getD_eq_getElem?_getD, hz] at this
    rw [Hv.addr_off, Nat.zero_add]
    exact Hv.bcell_of_cell this, Hv.ints_cl .u32 Hv.tabK 0, rfl⟩

set_option maxRecDepth 100000 in
theorem sigSigns_contract (H : Type) (enc : TypeId × Value → H) (W : World) (base : Nat) (args : Array Value) (ds gs : List (DataW H)) (before : List MemPlace)
    (hval0 : ∀ (j : Nat) t v, Tryz.f3.params[j]? = some t → args[j]? = some v → Value.okWide Tryz.prog W .any base t v)
    (hW : DataW.Whole enc Tryz.prog Tryz.f3.params.toList Rows.sigSignsSpec.vars false W args.toList ds gs before) (hL : laidMetH Tryz.prog Rows.sigSignsRow.laid W) (hz1 : ∀ el spare, ds[1]? = some (.slice el spare) → (el.length + spare.length) * 1 ≤ reachBytes) :
    Calls Tryz.prog 3 args W fun e W' => ∃ v, e = .returned v ∧ Rows.sigSignsSpec.post enc Tryz.prog Tryz.f3 false true false false W args v W' := by
  have hTb : Hv.Tab (fun r o => W.heap[r]? = some o) := tabRead (table1 hL) gTab1
  have hT0 : Hv.Tab0 (fun r o => W.heap[r]? = some o) := tabRead (table0 hL) gTab0
  have hval : ∀ (j : Nat) t v, Tryz.f3.params[j]? = some t → args[j]? = some v → Value.okWide Tryz.prog W .any base t v := hval0
  have hW' := hW
  obtain ⟨p, q, hA0, hV, rfl, hfz, hnd⟩ := hW
  have hA : DataW.TrodAll enc Tryz.prog W 0 (fun _ => true) true Tryz.f3.params.toList args.toList ds p := hA0
  rw [Tryz.params3] at hA hval
  obtain ⟨v0, vs0, d0, ds0, p0, q0, hargs, rfl, rfl, h0, r0⟩ := trodAll_cons hA
  obtain ⟨v1, vs1, d1, ds1, p1, q1, rfl, rfl, rfl, h1, r1⟩ := trodAll_cons r0
  obtain ⟨rfl, rfl, rfl⟩ := trodAll_nil r1
  obtain rfl : args = #[v0, v1] := by cases args; simp_all
  obtain ⟨rfl, rfl⟩ := trodVars_none hV
  obtain ⟨x0, hx0, e0, _⟩ := open_w Tryz.underlying24 Tryz.underlying22 (by kernel_rfl) (by kernel_rfl) (hval 0 24 v0 rfl rfl) h0
  obtain ⟨q1, c1, l1, e1, hb1, hs1, hn1⟩ := Hv.open_bs Tryz.underlying25 Tryz.underlying5 (by kernel_rfl) (hval 1 25 v1 rfl rfl) h1 (fun el sp h => hz1 el sp (by rw [h]; rfl))
  subst e0; subst e1
  have hcall := Hv.calls_of_HC' (Hv.lawSigSigns_hc hTb hT0 hx0 hb1 hn1 hs1)
  refine hcall.mono fun e W' ⟨he, hb⟩ => ?_
  exact ⟨_, he, law_post laidOut (by kernel_rfl) rfl Tryz.underlying4 rfl hW' ⟨rfl, rfl, rfl⟩ hb⟩

noncomputable def tabCells : Obj → Obj
  | .cells _ t frozen => .cells (Hv.tabK.map (Value.int .u32)).toArray t frozen
  | o => o
/-- A world for the witness: the tables hold what their initialisers lay. -/
noncomputable def laidWorld (os : Os) : World :=
  { World.holding Tryz.prog os ⟨#[], #[], []⟩ with heap := ((World.holding Tryz.prog os ⟨#[], #[], []⟩).heap.modify g_ref01_table tabCells).modify g_sha_table tabCells }
noncomputable def wargs : Array Value := #[.agg #[.int .u64 0, .int .u64 0, .int .u64 0, .int .u64 0], .slice none 0 0]
set_option maxRecDepth 100000 in
theorem laid_met (os : Os) : laidMet Tryz.prog Rows.sigSignsRow.laid ((laidWorld os).forCall (fun _ _ => 0) ⟨#[], wargs, []⟩).memory :=
  laidMet_of_run' 8 (by kernel_rfl) (by kernel_rfl)
set_option maxRecDepth 100000 in
theorem reads (os : Os) {H : Type} (enc : TypeId × Value → H) : ∃ places, DataW.whole enc Tryz.prog ((laidWorld os).forCall (fun _ _ => 0) ⟨#[], wargs, []⟩).memory Tryz.f3.params.toList Rows.sigSignsSpec.vars false wargs.toList 8 = some ([.agg (List.replicate 4 (.lit (.int .u64 0))), .nil], [], places) :=
  ⟨[], by kernel_rfl⟩

set_option maxRecDepth 100000 in
theorem sigSigns_lifted (os : Os) (started : os.Started) (H : Type) (enc : TypeId × Value → H) (F : Stop.Interp) :
    ReturnsInHanded {} Tryz.checked os 3 .any ((OpenSpec.ofChange Rows.sigSignsSpec).preRow enc Tryz.prog Tryz.f3 Rows.sigSignsRow.domain false Rows.sigSignsRow.laid) (((OpenSpec.ofChange Rows.sigSignsSpec).at F).post enc Tryz.prog Tryz.f3 false true false false) := by
  obtain ⟨places, hx⟩ := reads os enc
  refine returnsInHanded_of_row (C := Tryz.checked) (s := OpenSpec.ofChange Rows.sigSignsSpec) own started (by kernel_rfl) Tryz.func3
    (witness_row_at (enc := enc) (C := Tryz.checked) false (laidWorld os) wargs rfl (by kernel_rfl) (by kernel_rfl) (by kernel_rfl)
      (OpenSpec.preRow_of_cond 8 hx (by kernel_rfl) (fun k hk => by cases hk) (by kernel_rfl) (laid_met os))) ?_
  intro W base args ds gs before hval hW _ _ hwt hL _ _
  exact sigSigns_contract H enc W base args ds gs before hval hW hL (fun el sp h => by
    have hz := sized_slice hwt (j := 1) (t := 25) (by rw [Tryz.params3]; rfl) (by rw [List.getElem?_append_left (List.getElem?_eq_some_iff.1 h).1]; exact h) Tryz.underlying25
    rwa [show Program.bytesOf Tryz.checked.prog 5 = 1 by kernel_rfl] at hz)

theorem sigSigns_said : Rows.SigSignsSaid :=
  OpenClaim.holds_of_cond 3 Tryz.f3 rfl rfl rfl rfl rfl rfl rfl ⟨rfl, rfl, rfl, rfl, rfl⟩ rfl rfl rfl rfl rfl (by kernel_rfl) Tryz.func3 (by kernel_rfl)
    (of_decide_eq_true (by kernel_rfl)) (by unfold Func.isWrapper; first | (rw [if_pos (by decide +kernel)]; kernel_rfl) | (rw [if_neg (by decide +kernel)]; exact ⟨rfl, rfl⟩))
    (fun os started H enc _ F => by rw [OpenClaim.pre_eq_preRow]; exact sigSigns_lifted os started H enc F)

theorem plain (f : FuncId) (fn : Func) (hf : Tryz.pinned.checked.prog.funcNamed "tollhouse/tollhouselaw06.SigSigns" = some f) (hfn : Tryz.pinned.checked.prog.funcs[f]? = some fn) :
    false = Tryz.pinned.checked.prog.looks [] ∧ ∀ (j : Nat) t, fn.params[j]? = some t → Tryz.pinned.checked.prog.wantsStandIn t = false := by
  obtain rfl : f = 3 := Option.some.inj ((show Tryz.prog.funcNamed "tollhouse/tollhouselaw06.SigSigns" = some 3 by kernel_rfl).symm.trans hf) |>.symm
  obtain rfl : fn = Tryz.f3 := (Option.some.inj (Tryz.func3.symm.trans hfn)).symm
  refine ⟨by kernel_rfl, fun j t ht => ?_⟩
  rw [Tryz.params3] at ht
  have hm : t ∈ [24, 25] := by simpa using Array.mem_of_getElem? ht
  have hall : ([24, 25].all fun u => !Tryz.prog.wantsStandIn u) = true := by kernel_rfl
  exact (show Tryz.prog.wantsStandIn t = false by simpa using List.all_eq_true.1 hall t hm)

theorem sigSigns_holds : Rows.SigSignsCardSaid :=
  Claim7.holds_tied_plain_at .later [] _ _ _ _ sigSigns_said (fun _ h => by cases h) (by kernel_rfl) (fun _ h => by cases h) sigSigns_row_tie rfl ⟨rfl, rfl⟩ (by kernel_rfl) rfl plain (by kernel_rfl)
end Go.Proofs.YthmdbgdagnhheaaGreatDoor


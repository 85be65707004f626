/- CommitBalanced is proved: for every input the law returns true and its input reads as before. No conditions. -/
import Derived.Test.YtaochmekimkegaaLaw
import Derived.Test.YtaochmekimkegaaSu4
import Derived.Test.YtaochmekimkegaaRows
namespace Go.Proofs.Ytaochmekimkegaa
open Go.ChangeShapes Go.WideShapes Go.ChangeAt Go.RowKit Go.Ev

theorem own : ownKnob Try.prog.godebug = none := by kernel_rfl
theorem laid : laidOutB Try.prog = true := by kernel_rfl

set_option maxRecDepth 100000 in
theorem commitBalanced_lifted (os : Os) (started : os.Started) (H : Type) (enc : TypeId × Value → H) :
    ReturnsInHanded {} Try.checked os 3 .any (Rows.commitBalancedSpec.pre6 enc Try.prog Try.f3 Rows.commitBalancedRow.domain false) (Rows.commitBalancedSpec.post enc Try.prog Try.f3 false true false false) := by
  refine returnsInHanded_of_change_sized (C := Try.checked) own started (by kernel_rfl) Try.func3
    (ChangeSpec.witness6 (enc := enc) (C := Try.checked) false ⟨#[], #[.slice none 0 0, .slice none 0 0], []⟩ 3 (by kernel_rfl) (by kernel_rfl) (by kernel_rfl) (by kernel_rfl)) ?_
  intro W1 base args ds gs before hval0 hW hcnd hwt _
  have hval : ∀ (j : Nat) t v, Try.f3.params[j]? = some t → args[j]? = some v → Value.okWide Try.prog W1 .any base t v := hval0
  have hW' := hW
  obtain ⟨p, q, hA0, hV, rfl, hfz, hnd⟩ := hW
  have hA : DataW.TrodAll enc Try.prog W1 0 (fun _ => true) true Try.f3.params.toList args.toList ds p := hA0
  rw [Try.params3] at hA hval
  obtain ⟨v0, vs0, d0, ds0, p0, q0, hargs, rfl, rfl, h0, r0⟩ := trodAll_cons hA
  obtain ⟨v1, vs1, d1, ds1, p1, q1, rfl, rfl, rfl, h1, r1⟩ := trodAll_cons r0
  obtain ⟨rfl, rfl, rfl⟩ := trodAll_nil r1
  obtain rfl : args = #[v0, v1] := by cases args; simp_all
  obtain ⟨rfl, rfl⟩ := trodVars_none hV
  obtain ⟨q0, c0, l0, e0, hs0, hb0⟩ := Hv.open_spt Try.underlying22 Try.underlying30 rfl Try.underlying28 Try.underlying26 Try.underlying4 (by kernel_rfl) (by kernel_rfl) (by kernel_rfl) (by kernel_rfl) (hval 0 22 v0 rfl rfl) h0 (fun el sp h => by have hz := sized_slice hwt (j := 0) (t := 22) (by rw [Try.params3]; rfl) (by rw [h]; rfl) Try.underlying22; rwa [show Program.bytesOf Try.checked.prog 30 = 72 by kernel_rfl] at hz)
  obtain ⟨q1, c1, l1, e1, hs1, hb1⟩ := Hv.open_spt Try.underlying22 Try.underlying30 rfl Try.underlying28 Try.underlying26 Try.underlying4 (by kernel_rfl) (by kernel_rfl) (by kernel_rfl) (by kernel_rfl) (hval 1 22 v1 rfl rfl) h1 (fun el sp h => by have hz := sized_slice hwt (j := 1) (t := 22) (by rw [Try.params3]; rfl) (by rw [h]; rfl) Try.underlying22; rwa [show Program.bytesOf Try.checked.prog 30 = 72 by kernel_rfl] at hz)
  subst e0; subst e1
  have hcall := Hv.calls_of_HC' (Hv.lawCommitBalanced_hc hs0 hs1)
  refine hcall.mono fun e W' ⟨he, hb⟩ => ?_
  exact ⟨_, he, law_post laid (by kernel_rfl) rfl Try.underlying4 rfl hW' ⟨rfl, rfl, rfl⟩ hb⟩

theorem commitBalanced_holds : Rows.CommitBalancedSaid :=
  OpenClaim.holds_of_wide 3 Try.f3 rfl rfl rfl rfl rfl rfl rfl ⟨rfl, rfl, rfl, rfl, rfl⟩ rfl rfl rfl rfl rfl (by kernel_rfl) Try.func3 (by kernel_rfl)
    (of_decide_eq_true (by kernel_rfl)) (by unfold Func.isWrapper; first | (rw [if_pos (by decide +kernel)]; kernel_rfl) | (rw [if_neg (by decide +kernel)]; exact ⟨rfl, rfl⟩))
    (fun os started H enc _ => commitBalanced_lifted os started H enc)
end Go.Proofs.Ytaochmekimkegaa

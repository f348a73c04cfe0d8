/- The program's EscortPlan returns what the reference's returns, for all arguments.
   Conditions: none beside the statement's own. -/
import Derived.Test.YtlmiojnkjlnmjaaRows
import Derived.Test.YtlmiojnkjlnmjaaGZbx6
import Derived.Test.YtlmiojnkjlnmjaaPureFnExactEscortPlanZb
import Derived.Test.YtlmiojnkjlnmjaaPureOpenZb
import Derived.Test.YtlmiojnkjlnmjaaFactA
import Derived.Test.YtlmiojnkjlnmjaaFactB
import Derived.Test.YtlmiojnkjlnmjaaFactC
import Derived.WalkKit
import Derived.ProofKit
import Derived.OpenShut
import Derived.ShutString
import Derived.ChangeOld
import Derived.Below
import Derived.SizedLaws
import Derived.Lib.SmallJoins
namespace Go.Proofs.Ytlmiojnkjlnmjaa.fnExactEscortPlan
open Go.ChangeShapes Go.WideShapes Go.ChangeAt Go.RowKit Go.Proofs.YtlmiojnkjlnmjaaW.PrintWords
set_option linter.unusedVariables false
theorem own : ownKnob Try.prog.godebug = none := by kernel_rfl
theorem laidOut : laidOutB Try.prog = true := by kernel_rfl
set_option maxRecDepth 100000 in
theorem lifted (os : Os) (started : os.Started) (H : Type) (enc : TypeId × Value → H) :
    ReturnsInHanded {} Try.checked os 13 .any (Rows.fnExactEscortPlanSpec.pre6 enc Try.prog Try.f13 Rows.fnExactEscortPlanRow.domain false) (Rows.fnExactEscortPlanSpec.post enc Try.prog Try.f13 false true false false) := by
  refine returnsInHanded_of_change_sized (C := Try.checked) own started (by kernel_rfl) Try.func13
    (ChangeSpec.witness6 (enc := enc) (C := Try.checked) false ⟨#[], #[.slice none 0 0], []⟩ 8 (by kernel_rfl) (by kernel_rfl) (by kernel_rfl) (by kernel_rfl)) ?_
  intro W base args ds gs before hval0 hW hcnd hsz0 _
  have hval : ∀ (j : Nat) t v, Try.f13.params[j]? = some t → args[j]? = some v → Value.okWide Try.prog W .any base t v := hval0
  have hW' := hW
  obtain ⟨p, q, hA0, hV, rfl, hfz, hnd⟩ := hW
  have hA : DataW.TrodAll enc Try.prog W 0 (fun _ => true) true Try.f13.params.toList args.toList ds p := hA0
  rw [Try.params13] at hA hval
  obtain ⟨v0, vs0, d0, ds0, p0, q0, hargs, rfl, rfl, h0, r0⟩ := trodAll_cons hA
  obtain ⟨rfl, rfl, rfl⟩ := trodAll_nil r0
  obtain rfl : args = #[v0] := by cases args; simp_all
  obtain ⟨rfl, rfl⟩ := trodVars_none hV
  have k0 := h0
  have lt0 : ∀ x ∈ p0, x.block < W.heap.size := by obtain ⟨m, hm⟩ := k0; exact DataW.trod_lt m _ _ _ hm
  obtain ⟨z0, zl0, zc0, rfl⟩ := okWide_slice Try.underlying22 (hval 0 22 v0 rfl rfl)
  obtain ⟨n0, e0⟩ := h0
  have e0' : DataW.trod enc Try.prog W 0 (fun _ => true) true n0 22 [.slice z0 zl0 zc0] = some (d0, p0) := by simpa [Value.cells] using e0
  obtain ⟨v0, hz0⟩ : ∃ v, v = Value.slice z0 zl0 zc0 := ⟨_, rfl⟩
  rw [← hz0] at e0' k0 hval hW' ⊢
  clear hz0
  obtain ⟨l0, ⟨A0, c0, hv0, hc0, hr0⟩, hl0, hq0⟩ := (Open.opens_slice Try.underlying22 (by kernel_rfl) rfl (Open.opens_int Try.underlying3)) _ _ _ e0'
  have hv0' : [v0] = [Value.slice A0 l0.length c0] := hv0
  obtain rfl := (List.cons.inj hv0').1
  clear hA0 hval0 hsz0
  obtain ⟨k, hk⟩ := Pure.FnExactEscortPlan l0 hl0
  refine (G.laws_FnExactEscortPlan.calls k A0 c0 l0 true W hr0 hc0 hk).mono fun e W' ⟨he, bel0⟩ => ?_
  have bel : Below W.heap.size W W' := bel0
  subst he
  exact ⟨_, rfl, _, _, _, [], _, [], hW', trodAll_mk1 (shut_bool Try.underlying4 _), (trodAll_cons_mk (Below.trod laidOut (by kernel_rfl) (of_decide_eq_true (by kernel_rfl)) k0 bel lt0) trodAll_mk0), rfl, bel.frame _, fun h => by cases h⟩
theorem over : Rows.fnExactEscortPlanRow.holds Try.pinned (OpenSpec.ofChange Rows.fnExactEscortPlanSpec) :=
  OpenClaim.holds_of_wide 13 Try.f13 rfl rfl rfl rfl rfl rfl rfl ⟨rfl, rfl, rfl, rfl, rfl⟩ rfl rfl rfl rfl rfl (by kernel_rfl) Try.func13 (by have h1 : (Rows.fnExactEscortPlanRow.lifted == Try.pinned.checked.prog.liftsFinal) = true := factLifts; have h2 : (Try.pinned.checked.prog.make == some Rows.fnExactEscortPlanRow.make) = true := factMake; unfold joinedFacts; rw [factMay, h1, h2]; change _ = true; kernel_rfl)
    (of_decide_eq_true (by kernel_rfl)) (by unfold Func.isWrapper; first | (rw [if_pos (by decide +kernel)]; kernel_rfl) | (rw [if_neg (by decide +kernel)]; exact ⟨rfl, rfl⟩))
    (fun os started H enc _ => lifted os started H enc)
theorem proved : Rows.FnExactEscortPlanSaid := over
#print axioms proved
end Go.Proofs.Ytlmiojnkjlnmjaa.fnExactEscortPlan
namespace Go.Proofs.Ytlmiojnkjlnmjaa
/-- The row, under a short name, for the claim. -/
theorem fnExactEscortPlan_holds : Rows.FnExactEscortPlanSaid := fnExactEscortPlan.proved
end Go.Proofs.Ytlmiojnkjlnmjaa

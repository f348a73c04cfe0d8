/- The law FnExactIsCompany returns true for all numbers, and leaves its argument as it was.
   Conditions: none beside the statement's own. -/
import Derived.Test.YtnlblmadaipheaaRows
import Derived.Test.YtnlblmadaipheaaGx1
import Derived.Test.YtnlblmadaipheaaPureFnExactIsCompany
import Derived.Test.YtnlblmadaipheaaPureOpen
import Derived.WalkKit
import Derived.ProofKit
import Derived.OpenShut
import Derived.ShutString
import Derived.ChangeOld
import Derived.Below
import Derived.SizedLaws
import Derived.Lib.SmallJoins
namespace Go.Proofs.Ytnlblmadaipheaa.fnExactIsCompany
open Go.ChangeShapes Go.WideShapes Go.ChangeAt Go.RowKit Go.Proofs.YtnlblmadaipheaaW.PrintWords
set_option linter.unusedVariables false
theorem own : ownKnob Try.prog.godebug = none := by kernel_rfl
theorem laidOut : laidOutB Try.prog = true := by kernel_rfl
set_option maxRecDepth 100000 in
theorem lifted (os : Os) (started : os.Started) (H : Type) (enc : TypeId × Value → H) :
    ReturnsInHanded {} Try.checked os 4 .any (Rows.fnExactIsCompanySpec.pre6 enc Try.prog Try.f4 Rows.fnExactIsCompanyRow.domain false) (Rows.fnExactIsCompanySpec.post enc Try.prog Try.f4 false true false false) := by
  refine returnsInHanded_of_change_sized (C := Try.checked) own started (by kernel_rfl) Try.func4
    (ChangeSpec.witness6 (enc := enc) (C := Try.checked) false ⟨#[], #[.agg #[.int .i64 0, .int .i64 0]], []⟩ 8 (by kernel_rfl) (by kernel_rfl) (by kernel_rfl) (by kernel_rfl)) ?_
  intro W base args ds gs before hval0 hW hcnd hsz0 _
  have hval : ∀ (j : Nat) t v, Try.f4.params[j]? = some t → args[j]? = some v → Value.okWide Try.prog W .any base t v := hval0
  have hW' := hW
  obtain ⟨p, q, hA0, hV, rfl, hfz, hnd⟩ := hW
  have hA : DataW.TrodAll enc Try.prog W 0 (fun _ => true) true Try.f4.params.toList args.toList ds p := hA0
  rw [Try.params4] at hA hval
  obtain ⟨v0, vs0, d0, ds0, p0, q0, hargs, rfl, rfl, h0, r0⟩ := trodAll_cons hA
  obtain ⟨rfl, rfl, rfl⟩ := trodAll_nil r0
  obtain rfl : args = #[v0] := by cases args; simp_all
  obtain ⟨rfl, rfl⟩ := trodVars_none hV
  have k0 := h0
  have lt0 : ∀ x ∈ p0, x.block < W.heap.size := by obtain ⟨m, hm⟩ := k0; exact DataW.trod_lt m _ _ _ hm
  obtain ⟨v0_0, v0_1, y0_0, y0_1, n0, rfl, rfl, rfl, e0_0, e0_1⟩ := Joins.open_agg2 Try.underlying24 (by kernel_rfl) (by kernel_rfl) (hval 0 24 v0 rfl rfl) h0
  obtain ⟨a0_0, hv0_0, hw0_0⟩ := (Open.opens_int Try.underlying3) _ _ _ e0_0
  have hv0_0' : [v0_0] = [Value.int .i64 a0_0] := hv0_0
  obtain rfl := (List.cons.inj hv0_0').1
  obtain ⟨a0_1, hv0_1, hw0_1⟩ := (Open.opens_int Try.underlying3) _ _ _ e0_1
  have hv0_1' : [v0_1] = [Value.int .i64 a0_1] := hv0_1
  obtain rfl := (List.cons.inj hv0_1').1
  clear hA0 hval0 hsz0
  have hk := Pure.FnExactIsCompany a0_0 a0_1
  refine (G.laws_FnExactIsCompany.calls a0_0 a0_1 true W  hk).mono fun e W' ⟨he, bel0⟩ => ?_
  have bel : Below W.heap.size W W' := bel0
  subst he
  exact ⟨_, rfl, _, _, _, [], _, [], hW', trodAll_mk1 (shut_bool Try.underlying4 _), (trodAll_cons_mk (Below.trod laidOut (by kernel_rfl) (of_decide_eq_true (by kernel_rfl)) k0 bel lt0) trodAll_mk0), rfl, bel.frame _, fun h => by cases h⟩
theorem over : Rows.fnExactIsCompanyRow.holds Try.pinned (OpenSpec.ofChange Rows.fnExactIsCompanySpec) :=
  OpenClaim.holds_of_wide 4 Try.f4 rfl rfl rfl rfl rfl rfl rfl ⟨rfl, rfl, rfl, rfl, rfl⟩ rfl rfl rfl rfl rfl (by kernel_rfl) Try.func4 (by kernel_rfl)
    (of_decide_eq_true (by kernel_rfl)) (by unfold Func.isWrapper; first | (rw [if_pos (by decide +kernel)]; kernel_rfl) | (rw [if_neg (by decide +kernel)]; exact ⟨rfl, rfl⟩))
    (fun os started H enc _ => lifted os started H enc)
theorem proved : Rows.FnExactIsCompanySaid := over
#print axioms proved
end Go.Proofs.Ytnlblmadaipheaa.fnExactIsCompany
namespace Go.Proofs.Ytnlblmadaipheaa
/-- The row, under a short name, for the claim. -/
theorem fnExactIsCompany_holds : Rows.FnExactIsCompanySaid := fnExactIsCompany.proved
end Go.Proofs.Ytnlblmadaipheaa

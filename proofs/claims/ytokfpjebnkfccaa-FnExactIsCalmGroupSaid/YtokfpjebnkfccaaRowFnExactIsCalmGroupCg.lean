/- The law FnExactIsCalmGroup returns true for every number of couples and every list, and leaves its argument as it was.
   Conditions: none beside the statement's own. -/
import Derived.Test.YtokfpjebnkfccaaRows
import Derived.Test.YtokfpjebnkfccaaGCgx2
import Derived.Test.YtokfpjebnkfccaaPureFnExactIsCalmGroupCg
import Derived.Test.YtokfpjebnkfccaaPureOpenCg
import Derived.WalkKit
import Derived.ProofKit
import Derived.OpenShut
import Derived.ShutString
import Derived.ChangeOld
import Derived.Below
import Derived.SizedLaws
import Derived.Lib.SmallJoins
namespace Go.Proofs.Ytokfpjebnkfccaa.fnExactIsCalmGroup
open Go.ChangeShapes Go.WideShapes Go.ChangeAt Go.RowKit Go.Proofs.YtokfpjebnkfccaaW.PrintWords
set_option linter.unusedVariables false
theorem own : ownKnob Try.prog.godebug = none := by kernel_rfl
theorem laidOut : laidOutB Try.prog = true := by kernel_rfl
set_option maxRecDepth 100000 in
theorem lifted (os : Os) (started : os.Started) (H : Type) (enc : TypeId × Value → H) :
    ReturnsInHanded {} Try.checked os 3 .any (Rows.fnExactIsCalmGroupSpec.pre6 enc Try.prog Try.f3 Rows.fnExactIsCalmGroupRow.domain false) (Rows.fnExactIsCalmGroupSpec.post enc Try.prog Try.f3 false true false false) := by
  refine returnsInHanded_of_change_sized (C := Try.checked) own started (by kernel_rfl) Try.func3
    (ChangeSpec.witness6 (enc := enc) (C := Try.checked) false ⟨#[], #[.int .i64 0, .slice none 0 0], []⟩ 8 (by kernel_rfl) (by kernel_rfl) (by kernel_rfl) (by kernel_rfl)) ?_
  intro W base args ds gs before hval0 hW hcnd hsz0 _
  have hval : ∀ (j : Nat) t v, Try.f3.params[j]? = some t → args[j]? = some v → Value.okWide Try.prog W .any base t v := hval0
  have hW' := hW
  obtain ⟨p, q, hA0, hV, rfl, hfz, hnd⟩ := hW
  have hA : DataW.TrodAll enc Try.prog W 0 (fun _ => true) true Try.f3.params.toList args.toList ds p := hA0
  rw [Try.params3] at hA hval
  obtain ⟨v0, vs0, d0, ds0, p0, q0, hargs, rfl, rfl, h0, r0⟩ := trodAll_cons hA
  obtain ⟨v1, vs1, d1, ds1, p1, q1, rfl, rfl, rfl, h1, r1⟩ := trodAll_cons r0
  obtain ⟨rfl, rfl, rfl⟩ := trodAll_nil r1
  obtain rfl : args = #[v0, v1] := by cases args; simp_all
  obtain ⟨rfl, rfl⟩ := trodVars_none hV
  have k0 := h0
  have lt0 : ∀ x ∈ p0, x.block < W.heap.size := by obtain ⟨m, hm⟩ := k0; exact DataW.trod_lt m _ _ _ hm
  obtain ⟨a0, rfl, rfl, rfl, w0⟩ := open_int Try.underlying3 (hval 0 3 v0 rfl rfl) h0
  have k1 := h1
  have lt1 : ∀ x ∈ p1, x.block < W.heap.size := by obtain ⟨m, hm⟩ := k1; exact DataW.trod_lt m _ _ _ hm
  obtain ⟨z1, zl1, zc1, rfl⟩ := okWide_slice Try.underlying22 (hval 1 22 v1 rfl rfl)
  obtain ⟨n1, e1⟩ := h1
  have e1' : DataW.trod enc Try.prog W 0 (fun _ => true) true n1 22 [.slice z1 zl1 zc1] = some (d1, p1) := by simpa [Value.cells] using e1
  obtain ⟨v1, hz1⟩ : ∃ v, v = Value.slice z1 zl1 zc1 := ⟨_, rfl⟩
  rw [← hz1] at e1' k1 hval hW' ⊢
  clear hz1
  obtain ⟨l1, ⟨A1, c1, hv1, hc1, hr1⟩, hl1, hq1⟩ := (Open.opens_slice Try.underlying22 (by kernel_rfl) rfl (Open.opens_int Try.underlying3)) _ _ _ e1'
  have hv1' : [v1] = [Value.slice A1 l1.length c1] := hv1
  obtain rfl := (List.cons.inj hv1').1
  clear hA0 hval0 hsz0
  obtain ⟨k, hk⟩ := Pure.FnExactIsCalmGroup a0 l1 hl1
  refine (G.laws_FnExactIsCalmGroup.calls k a0 A1 c1 l1 true W hr1 hc1 hk).mono fun e W' ⟨he, bel0⟩ => ?_
  have bel : Below W.heap.size W W' := bel0
  subst he
  exact ⟨_, rfl, _, _, _, [], _, [], hW', trodAll_mk1 (shut_bool Try.underlying4 _), (trodAll_cons_mk (Below.trod laidOut (by kernel_rfl) (of_decide_eq_true (by kernel_rfl)) k0 bel lt0) (trodAll_cons_mk (Below.trod laidOut (by kernel_rfl) (of_decide_eq_true (by kernel_rfl)) k1 bel lt1) trodAll_mk0)), rfl, bel.frame _, fun h => by cases h⟩
theorem over : Rows.fnExactIsCalmGroupRow.holds Try.pinned (OpenSpec.ofChange Rows.fnExactIsCalmGroupSpec) :=
  OpenClaim.holds_of_wide 3 Try.f3 rfl rfl rfl rfl rfl rfl rfl ⟨rfl, rfl, rfl, rfl, rfl⟩ rfl rfl rfl rfl rfl (by kernel_rfl) Try.func3 (by kernel_rfl)
    (of_decide_eq_true (by kernel_rfl)) (by unfold Func.isWrapper; first | (rw [if_pos (by decide +kernel)]; kernel_rfl) | (rw [if_neg (by decide +kernel)]; exact ⟨rfl, rfl⟩))
    (fun os started H enc _ => lifted os started H enc)
theorem proved : Rows.FnExactIsCalmGroupSaid := over
#print axioms proved
end Go.Proofs.Ytokfpjebnkfccaa.fnExactIsCalmGroup
namespace Go.Proofs.Ytokfpjebnkfccaa
/-- The row, under a short name, for the claim. -/
theorem fnExactIsCalmGroup_holds : Rows.FnExactIsCalmGroupSaid := fnExactIsCalmGroup.proved
end Go.Proofs.Ytokfpjebnkfccaa

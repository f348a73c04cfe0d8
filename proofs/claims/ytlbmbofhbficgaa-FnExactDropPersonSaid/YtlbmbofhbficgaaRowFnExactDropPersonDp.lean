/- The law FnExactDropPerson returns true for every party and person, valid or not, and leaves its arguments as they were.
   Conditions: none beside the statement's own. -/
import Derived.Test.YtlbmbofhbficgaaRows
import Derived.Test.YtlbmbofhbficgaaGDpx4
import Derived.Test.YtlbmbofhbficgaaPureFnExactDropPersonDp
import Derived.Test.YtlbmbofhbficgaaPureOpenDp
import Derived.WalkKit
import Derived.ProofKit
import Derived.OpenShut
import Derived.ShutString
import Derived.ChangeOld
import Derived.Below
import Derived.SizedLaws
import Derived.Lib.SmallJoins
namespace Go.Proofs.Ytlbmbofhbficgaa.fnExactDropPerson
open Go.ChangeShapes Go.WideShapes Go.ChangeAt Go.RowKit Go.Proofs.YtlbmbofhbficgaaW.PrintWords
set_option linter.unusedVariables false
theorem own : ownKnob Try.prog.godebug = none := by kernel_rfl
theorem laidOut : laidOutB Try.prog = true := by kernel_rfl
set_option maxRecDepth 100000 in
theorem lifted (os : Os) (started : os.Started) (H : Type) (enc : TypeId × Value → H) :
    ReturnsInHanded {} Try.checked os 5 .any (Rows.fnExactDropPersonSpec.pre6 enc Try.prog Try.f5 Rows.fnExactDropPersonRow.domain false) (Rows.fnExactDropPersonSpec.post enc Try.prog Try.f5 false true false false) := by
  refine returnsInHanded_of_change_sized (C := Try.checked) own started (by kernel_rfl) Try.func5
    (ChangeSpec.witness6 (enc := enc) (C := Try.checked) false ⟨#[], #[.agg #[.slice none 0 0, .int .i64 0], .int .i64 0], []⟩ 8 (by kernel_rfl) (by kernel_rfl) (by kernel_rfl) (by kernel_rfl)) ?_
  intro W base args ds gs before hval0 hW hcnd hsz0 _
  have hval : ∀ (j : Nat) t v, Try.f5.params[j]? = some t → args[j]? = some v → Value.okWide Try.prog W .any base t v := hval0
  have hW' := hW
  obtain ⟨p, q, hA0, hV, rfl, hfz, hnd⟩ := hW
  have hA : DataW.TrodAll enc Try.prog W 0 (fun _ => true) true Try.f5.params.toList args.toList ds p := hA0
  rw [Try.params5] at hA hval
  obtain ⟨v0, vs0, d0, ds0, p0, q0, hargs, rfl, rfl, h0, r0⟩ := trodAll_cons hA
  obtain ⟨v1, vs1, d1, ds1, p1, q1, rfl, rfl, rfl, h1, r1⟩ := trodAll_cons r0
  obtain ⟨rfl, rfl, rfl⟩ := trodAll_nil r1
  obtain rfl : args = #[v0, v1] := by cases args; simp_all
  obtain ⟨rfl, rfl⟩ := trodVars_none hV
  have k0 := h0
  have lt0 : ∀ x ∈ p0, x.block < W.heap.size := by obtain ⟨m, hm⟩ := k0; exact DataW.trod_lt m _ _ _ hm
  obtain ⟨v0_0, v0_1, y0_0, y0_1, n0, rfl, rfl, rfl, e0_0, e0_1⟩ := Joins.open_agg2 Try.underlying24 (by kernel_rfl) (by kernel_rfl) (hval 0 24 v0 rfl rfl) h0
  obtain ⟨l0_0, ⟨A0_0, c0_0, hv0_0, hc0_0, hr0_0⟩, hl0_0, hq0_0⟩ := (Open.opens_slice Try.underlying22 (by kernel_rfl) rfl (Open.opens_int Try.underlying3)) _ _ _ e0_0
  have hv0_0' : [v0_0] = [Value.slice A0_0 l0_0.length c0_0] := hv0_0
  obtain rfl := (List.cons.inj hv0_0').1
  obtain ⟨a0_1, hv0_1, hw0_1⟩ := (Open.opens_int Try.underlying3) _ _ _ e0_1
  have hv0_1' : [v0_1] = [Value.int .i64 a0_1] := hv0_1
  obtain rfl := (List.cons.inj hv0_1').1
  have k1 := h1
  have lt1 : ∀ x ∈ p1, x.block < W.heap.size := by obtain ⟨m, hm⟩ := k1; exact DataW.trod_lt m _ _ _ hm
  obtain ⟨a1, rfl, rfl, rfl, w1⟩ := open_int Try.underlying3 (hval 1 3 v1 rfl rfl) h1
  clear hA0 hval0 hsz0
  obtain ⟨k, hk⟩ := Pure.FnExactDropPerson l0_0 a0_1 a1 hl0_0
  refine (G.laws_FnExactDropPerson.calls k A0_0 c0_0 l0_0 a0_1 a1 true W hr0_0 hc0_0 hk).mono fun e W' ⟨he, bel0⟩ => ?_
  have bel : Below W.heap.size W W' := bel0
  subst he
  exact ⟨_, rfl, _, _, _, [], _, [], hW', trodAll_mk1 (shut_bool Try.underlying4 _), (trodAll_cons_mk (Below.trod laidOut (by kernel_rfl) (of_decide_eq_true (by kernel_rfl)) k0 bel lt0) (trodAll_cons_mk (Below.trod laidOut (by kernel_rfl) (of_decide_eq_true (by kernel_rfl)) k1 bel lt1) trodAll_mk0)), rfl, bel.frame _, fun h => by cases h⟩
theorem over : Rows.fnExactDropPersonRow.holds Try.pinned (OpenSpec.ofChange Rows.fnExactDropPersonSpec) :=
  OpenClaim.holds_of_wide 5 Try.f5 rfl rfl rfl rfl rfl rfl rfl ⟨rfl, rfl, rfl, rfl, rfl⟩ rfl rfl rfl rfl rfl (by kernel_rfl) Try.func5 (by kernel_rfl)
    (of_decide_eq_true (by kernel_rfl)) (by unfold Func.isWrapper; first | (rw [if_pos (by decide +kernel)]; kernel_rfl) | (rw [if_neg (by decide +kernel)]; exact ⟨rfl, rfl⟩))
    (fun os started H enc _ => lifted os started H enc)
theorem proved : Rows.FnExactDropPersonSaid := over
#print axioms proved
end Go.Proofs.Ytlbmbofhbficgaa.fnExactDropPerson
namespace Go.Proofs.Ytlbmbofhbficgaa
/-- The row, under a short name, for the claim. -/
theorem fnExactDropPerson_holds : Rows.FnExactDropPersonSaid := fnExactDropPerson.proved
end Go.Proofs.Ytlbmbofhbficgaa

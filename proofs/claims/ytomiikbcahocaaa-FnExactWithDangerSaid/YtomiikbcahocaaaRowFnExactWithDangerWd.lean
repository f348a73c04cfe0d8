/- The program's WithDanger returns what the reference's returns, for all arguments.
   Conditions: none beside the statement's own. -/
import Derived.Test.YtomiikbcahocaaaRows
import Derived.Test.YtomiikbcahocaaaGWdx8
import Derived.Test.YtomiikbcahocaaaPureFnExactWithDangerWd
import Derived.Test.YtomiikbcahocaaaPureOpenWd
import Derived.Test.YtomiikbcahocaaaFactA
import Derived.Test.YtomiikbcahocaaaFactB
import Derived.Test.YtomiikbcahocaaaFactC
import Derived.WalkKit
import Derived.ProofKit
import Derived.OpenShut
import Derived.ShutString
import Derived.ChangeOld
import Derived.Below
import Derived.SizedLaws
import Derived.Lib.SmallJoins
namespace Go.Proofs.Ytomiikbcahocaaa.fnExactWithDanger
open Go.ChangeShapes Go.WideShapes Go.ChangeAt Go.RowKit Go.Proofs.YtomiikbcahocaaaW.PrintWords
set_option linter.unusedVariables false
theorem own : ownKnob Try.prog.godebug = none := by kernel_rfl
theorem laidOut : laidOutB Try.prog = true := by kernel_rfl
set_option maxRecDepth 100000 in
theorem lifted (os : Os) (started : os.Started) (H : Type) (enc : TypeId × Value → H) :
    ReturnsInHanded {} Try.checked os 11 .any (Rows.fnExactWithDangerSpec.pre6 enc Try.prog Try.f11 Rows.fnExactWithDangerRow.domain false) (Rows.fnExactWithDangerSpec.post enc Try.prog Try.f11 false true false false) := by
  refine returnsInHanded_of_change_sized (C := Try.checked) own started (by kernel_rfl) Try.func11
    (ChangeSpec.witness6 (enc := enc) (C := Try.checked) false ⟨#[], #[.agg #[.int .i64 0, .slice none 0 0, .int .i64 0], .int .i64 0, .int .i64 0], []⟩ 8 (by kernel_rfl) (by kernel_rfl) (by kernel_rfl) (by kernel_rfl)) ?_
  intro W base args ds gs before hval0 hW hcnd hsz0 _
  have hval : ∀ (j : Nat) t v, Try.f11.params[j]? = some t → args[j]? = some v → Value.okWide Try.prog W .any base t v := hval0
  have hW' := hW
  obtain ⟨p, q, hA0, hV, rfl, hfz, hnd⟩ := hW
  have hA : DataW.TrodAll enc Try.prog W 0 (fun _ => true) true Try.f11.params.toList args.toList ds p := hA0
  rw [Try.params11] at hA hval
  obtain ⟨v0, vs0, d0, ds0, p0, q0, hargs, rfl, rfl, h0, r0⟩ := trodAll_cons hA
  obtain ⟨v1, vs1, d1, ds1, p1, q1, rfl, rfl, rfl, h1, r1⟩ := trodAll_cons r0
  obtain ⟨v2, vs2, d2, ds2, p2, q2, rfl, rfl, rfl, h2, r2⟩ := trodAll_cons r1
  obtain ⟨rfl, rfl, rfl⟩ := trodAll_nil r2
  obtain rfl : args = #[v0, v1, v2] := by cases args; simp_all
  obtain ⟨rfl, rfl⟩ := trodVars_none hV
  have k0 := h0
  have lt0 : ∀ x ∈ p0, x.block < W.heap.size := by obtain ⟨m, hm⟩ := k0; exact DataW.trod_lt m _ _ _ hm
  obtain ⟨v0_0, v0_1, v0_2, y0_0, y0_1, y0_2, n0, rfl, rfl, rfl, e0_0, e0_1, e0_2⟩ := Joins.open_agg3 Try.underlying24 (by kernel_rfl) (by kernel_rfl) (hval 0 24 v0 rfl rfl) h0
  obtain ⟨a0_0, hv0_0, hw0_0⟩ := (Open.opens_int Try.underlying3) _ _ _ e0_0
  have hv0_0' : [v0_0] = [Value.int .i64 a0_0] := hv0_0
  obtain rfl := (List.cons.inj hv0_0').1
  obtain ⟨l0_1, ⟨A0_1, c0_1, hv0_1, hc0_1, hr0_1⟩, hl0_1, hq0_1⟩ := (Open.opens_slice Try.underlying22 (by kernel_rfl) rfl (Open.opens_slice Try.underlying51 (by kernel_rfl) rfl (Open.opens_int Try.underlying3))) _ _ _ e0_1
  have hv0_1' : [v0_1] = [Value.slice A0_1 l0_1.length c0_1] := hv0_1
  obtain rfl := (List.cons.inj hv0_1').1
  obtain ⟨a0_2, hv0_2, hw0_2⟩ := (Open.opens_int Try.underlying3) _ _ _ e0_2
  have hv0_2' : [v0_2] = [Value.int .i64 a0_2] := hv0_2
  obtain rfl := (List.cons.inj hv0_2').1
  have k1 := h1
  have lt1 : ∀ x ∈ p1, x.block < W.heap.size := by obtain ⟨m, hm⟩ := k1; exact DataW.trod_lt m _ _ _ hm
  obtain ⟨a1, rfl, rfl, rfl, w1⟩ := open_int Try.underlying3 (hval 1 3 v1 rfl rfl) h1
  have k2 := h2
  have lt2 : ∀ x ∈ p2, x.block < W.heap.size := by obtain ⟨m, hm⟩ := k2; exact DataW.trod_lt m _ _ _ hm
  obtain ⟨a2, rfl, rfl, rfl, w2⟩ := open_int Try.underlying3 (hval 2 3 v2 rfl rfl) h2
  clear hA0 hval0 hsz0
  obtain ⟨k, hk⟩ := Pure.FnExactWithDanger a0_0 l0_1 a0_2 a1 a2 ⟨hl0_1, fun x hx => (hq0_1 x hx).1⟩
  refine (G.laws_FnExactWithDanger.calls k a0_0 A0_1 c0_1 l0_1 a0_2 a1 a2 true W hr0_1 hc0_1 hk).mono fun e W' ⟨he, bel0⟩ => ?_
  have bel : Below W.heap.size W W' := bel0
  subst he
  exact ⟨_, rfl, _, _, _, [], _, [], hW', trodAll_mk1 (shut_bool Try.underlying4 _), (trodAll_cons_mk (Below.trod laidOut (by kernel_rfl) (of_decide_eq_true (by kernel_rfl)) k0 bel lt0) (trodAll_cons_mk (Below.trod laidOut (by kernel_rfl) (of_decide_eq_true (by kernel_rfl)) k1 bel lt1) (trodAll_cons_mk (Below.trod laidOut (by kernel_rfl) (of_decide_eq_true (by kernel_rfl)) k2 bel lt2) trodAll_mk0))), rfl, bel.frame _, fun h => by cases h⟩
theorem over : Rows.fnExactWithDangerRow.holds Try.pinned (OpenSpec.ofChange Rows.fnExactWithDangerSpec) :=
  OpenClaim.holds_of_wide 11 Try.f11 rfl rfl rfl rfl rfl rfl rfl ⟨rfl, rfl, rfl, rfl, rfl⟩ rfl rfl rfl rfl rfl (by kernel_rfl) Try.func11 (by have h1 : (Rows.fnExactWithDangerRow.lifted == Try.pinned.checked.prog.liftsFinal) = true := factLifts; have h2 : (Try.pinned.checked.prog.make == some Rows.fnExactWithDangerRow.make) = true := factMake; unfold joinedFacts; rw [factMay, h1, h2]; change _ = true; kernel_rfl)
    (of_decide_eq_true (by kernel_rfl)) (by unfold Func.isWrapper; first | (rw [if_pos (by decide +kernel)]; kernel_rfl) | (rw [if_neg (by decide +kernel)]; exact ⟨rfl, rfl⟩))
    (fun os started H enc _ => lifted os started H enc)
theorem proved : Rows.FnExactWithDangerSaid := over
#print axioms proved
end Go.Proofs.Ytomiikbcahocaaa.fnExactWithDanger
namespace Go.Proofs.Ytomiikbcahocaaa
/-- The row, under a short name, for the claim. -/
theorem fnExactWithDanger_holds : Rows.FnExactWithDangerSaid := fnExactWithDanger.proved
end Go.Proofs.Ytomiikbcahocaaa

/- The program's RideOver returns what the reference's returns, for all arguments.
   Conditions: none beside the statement's own. -/
import Derived.Test.YtomiikbcahocaaaRows
import Derived.Test.YtomiikbcahocaaaGRox13
import Derived.Test.YtomiikbcahocaaaPureFnExactRideOverRo
import Derived.Test.YtomiikbcahocaaaPureOpenRo
import Derived.WalkKit
import Derived.ProofKit
import Derived.OpenShut
import Derived.ShutString
import Derived.ChangeOld
import Derived.Below
import Derived.SizedLaws
import Derived.Lib.SmallJoins
namespace Go.Proofs.Ytomiikbcahocaaa.fnExactRideOver
open Go.ChangeShapes Go.WideShapes Go.ChangeAt Go.RowKit Go.Proofs.YtomiikbcahocaaaW.PrintWords
set_option linter.unusedVariables false
theorem own : ownKnob Try.prog.godebug = none := by kernel_rfl
theorem laidOut : laidOutB Try.prog = true := by kernel_rfl
set_option maxRecDepth 100000 in
theorem lifted (os : Os) (started : os.Started) (H : Type) (enc : TypeId × Value → H) :
    ReturnsInHanded {} Try.checked os 9 .any (Rows.fnExactRideOverSpec.pre6 enc Try.prog Try.f9 Rows.fnExactRideOverRow.domain false) (Rows.fnExactRideOverSpec.post enc Try.prog Try.f9 false true false false) := by
  refine returnsInHanded_of_change_sized (C := Try.checked) own started (by kernel_rfl) Try.func9
    (ChangeSpec.witness6 (enc := enc) (C := Try.checked) false ⟨#[], #[.agg #[.int .i64 0, .slice none 0 0, .int .i64 0], .agg #[.slice none 0 0, .bool false], .slice none 0 0], []⟩ 8 (by kernel_rfl) (by kernel_rfl) (by kernel_rfl) (by kernel_rfl)) ?_
  intro W base args ds gs before hval0 hW hcnd hsz0 _
  have hval : ∀ (j : Nat) t v, Try.f9.params[j]? = some t → args[j]? = some v → Value.okWide Try.prog W .any base t v := hval0
  have hW' := hW
  obtain ⟨p, q, hA0, hV, rfl, hfz, hnd⟩ := hW
  have hA : DataW.TrodAll enc Try.prog W 0 (fun _ => true) true Try.f9.params.toList args.toList ds p := hA0
  rw [Try.params9] at hA hval
  obtain ⟨v0, vs0, d0, ds0, p0, q0, hargs, rfl, rfl, h0, r0⟩ := trodAll_cons hA
  obtain ⟨v1, vs1, d1, ds1, p1, q1, rfl, rfl, rfl, h1, r1⟩ := trodAll_cons r0
  obtain ⟨v2, vs2, d2, ds2, p2, q2, rfl, rfl, rfl, h2, r2⟩ := trodAll_cons r1
  obtain ⟨rfl, rfl, rfl⟩ := trodAll_nil r2
  obtain rfl : args = #[v0, v1, v2] := by cases args; simp_all
  obtain ⟨rfl, rfl⟩ := trodVars_none hV
  have k0 := h0
  have lt0 : ∀ x ∈ p0, x.block < W.heap.size := by obtain ⟨m, hm⟩ := k0; exact DataW.trod_lt m _ _ _ hm
  obtain ⟨v0_0, v0_1, v0_2, y0_0, y0_1, y0_2, n0, rfl, rfl, rfl, e0_0, e0_1, e0_2⟩ := Joins.open_agg3 Try.underlying24 (by kernel_rfl) (by kernel_rfl) (hval 0 24 v0 rfl rfl) h0
  obtain ⟨a0_0, hv0_0, hw0_0⟩ := (Open.opens_int Try.underlying3) _ _ _ e0_0
  have hv0_0' : [v0_0] = [Value.int .i64 a0_0] := hv0_0
  obtain rfl := (List.cons.inj hv0_0').1
  obtain ⟨l0_1, ⟨A0_1, c0_1, hv0_1, hc0_1, hr0_1⟩, hl0_1, hq0_1⟩ := (Open.opens_slice Try.underlying22 (by kernel_rfl) rfl (Open.opens_slice Try.underlying51 (by kernel_rfl) rfl (Open.opens_int Try.underlying3))) _ _ _ e0_1
  have hv0_1' : [v0_1] = [Value.slice A0_1 l0_1.length c0_1] := hv0_1
  obtain rfl := (List.cons.inj hv0_1').1
  obtain ⟨a0_2, hv0_2, hw0_2⟩ := (Open.opens_int Try.underlying3) _ _ _ e0_2
  have hv0_2' : [v0_2] = [Value.int .i64 a0_2] := hv0_2
  obtain rfl := (List.cons.inj hv0_2').1
  have k1 := h1
  have lt1 : ∀ x ∈ p1, x.block < W.heap.size := by obtain ⟨m, hm⟩ := k1; exact DataW.trod_lt m _ _ _ hm
  obtain ⟨v1_0, v1_1, y1_0, y1_1, n1, rfl, rfl, rfl, e1_0, e1_1⟩ := Joins.open_agg2 Try.underlying35 (by kernel_rfl) (by kernel_rfl) (hval 1 35 v1 rfl rfl) h1
  obtain ⟨l1_0, ⟨A1_0, c1_0, hv1_0, hc1_0, hr1_0⟩, hl1_0, hq1_0⟩ := (Open.opens_slice Try.underlying33 (by kernel_rfl) rfl (Open.opens_bool Try.underlying4)) _ _ _ e1_0
  have hv1_0' : [v1_0] = [Value.slice A1_0 l1_0.length c1_0] := hv1_0
  obtain rfl := (List.cons.inj hv1_0').1
  obtain ⟨a1_1, hv1_1, hw1_1⟩ := (Open.opens_bool Try.underlying4) _ _ _ e1_1
  have hv1_1' : [v1_1] = [Value.bool a1_1] := hv1_1
  obtain rfl := (List.cons.inj hv1_1').1
  have k2 := h2
  have lt2 : ∀ x ∈ p2, x.block < W.heap.size := by obtain ⟨m, hm⟩ := k2; exact DataW.trod_lt m _ _ _ hm
  obtain ⟨z2, zl2, zc2, rfl⟩ := okWide_slice Try.underlying51 (hval 2 51 v2 rfl rfl)
  obtain ⟨n2, e2⟩ := h2
  have e2' : DataW.trod enc Try.prog W 0 (fun _ => true) true n2 51 [.slice z2 zl2 zc2] = some (d2, p2) := by simpa [Value.cells] using e2
  obtain ⟨v2, hz2⟩ : ∃ v, v = Value.slice z2 zl2 zc2 := ⟨_, rfl⟩
  rw [← hz2] at e2' k2 hval hW' ⊢
  clear hz2
  obtain ⟨l2, ⟨A2, c2, hv2, hc2, hr2⟩, hl2, hq2⟩ := (Open.opens_slice Try.underlying51 (by kernel_rfl) rfl (Open.opens_int Try.underlying3)) _ _ _ e2'
  have hv2' : [v2] = [Value.slice A2 l2.length c2] := hv2
  obtain rfl := (List.cons.inj hv2').1
  clear hA0 hval0 hsz0
  obtain ⟨k, hk⟩ := Pure.FnExactRideOver a0_0 l0_1 a0_2 l1_0 a1_1 l2 ⟨hl0_1, fun x hx => (hq0_1 x hx).1⟩ hl1_0 hl2
  refine (G.laws_FnExactRideOver.calls k a0_0 A0_1 c0_1 l0_1 a0_2 A1_0 c1_0 l1_0 a1_1 A2 c2 l2 true W hr0_1 hc0_1 hr1_0 hc1_0 hr2 hc2 hk).mono fun e W' ⟨he, bel0⟩ => ?_
  have bel : Below W.heap.size W W' := bel0
  subst he
  exact ⟨_, rfl, _, _, _, [], _, [], hW', trodAll_mk1 (shut_bool Try.underlying4 _), (trodAll_cons_mk (Below.trod laidOut (by kernel_rfl) (of_decide_eq_true (by kernel_rfl)) k0 bel lt0) (trodAll_cons_mk (Below.trod laidOut (by kernel_rfl) (of_decide_eq_true (by kernel_rfl)) k1 bel lt1) (trodAll_cons_mk (Below.trod laidOut (by kernel_rfl) (of_decide_eq_true (by kernel_rfl)) k2 bel lt2) trodAll_mk0))), rfl, bel.frame _, fun h => by cases h⟩
theorem over : Rows.fnExactRideOverRow.holds Try.pinned (OpenSpec.ofChange Rows.fnExactRideOverSpec) :=
  OpenClaim.holds_of_wide 9 Try.f9 rfl rfl rfl rfl rfl rfl rfl ⟨rfl, rfl, rfl, rfl, rfl⟩ rfl rfl rfl rfl rfl (by kernel_rfl) Try.func9 (by kernel_rfl)
    (of_decide_eq_true (by kernel_rfl)) (by unfold Func.isWrapper; first | (rw [if_pos (by decide +kernel)]; kernel_rfl) | (rw [if_neg (by decide +kernel)]; exact ⟨rfl, rfl⟩))
    (fun os started H enc _ => lifted os started H enc)
theorem proved : Rows.FnExactRideOverSaid := over
#print axioms proved
end Go.Proofs.Ytomiikbcahocaaa.fnExactRideOver
namespace Go.Proofs.Ytomiikbcahocaaa
/-- The row, under a short name, for the claim. -/
theorem fnExactRideOver_holds : Rows.FnExactRideOverSaid := fnExactRideOver.proved
end Go.Proofs.Ytomiikbcahocaaa

/- Orders of pace rise, people who come cost what they cost, tight people are those who can spare none, and lists of a time are counted, whatever is given.
   Conditions: none beside the statement's own. -/
import Derived.Test.YtmejodmokogblaaRows
import Derived.Test.YtmejodmokogblaaGFpx14
import Derived.Test.YtmejodmokogblaaPureFnPairsChangeOfAllFp
import Derived.Test.YtmejodmokogblaaPureOpenFp
import Derived.WalkKit
import Derived.ProofKit
import Derived.OpenShut
import Derived.ShutString
import Derived.ChangeOld
import Derived.Below
import Derived.SizedLaws
import Derived.Lib.SmallJoins
namespace Go.Proofs.Ytmejodmokogblaa.fnPairsChangeOfAll
open Go.ChangeShapes Go.WideShapes Go.ChangeAt Go.RowKit Go.Proofs.YtmejodmokogblaaW.PrintWords
set_option linter.unusedVariables false
theorem own : ownKnob Try.prog.godebug = none := by kernel_rfl
theorem laidOut : laidOutB Try.prog = true := by kernel_rfl
set_option maxRecDepth 100000 in
theorem lifted (os : Os) (started : os.Started) (H : Type) (enc : TypeId × Value → H) :
    ReturnsInHanded {} Try.checked os 3 .any (Rows.fnPairsChangeOfAllSpec.pre6 enc Try.prog Try.f3 Rows.fnPairsChangeOfAllRow.domain false) (Rows.fnPairsChangeOfAllSpec.post enc Try.prog Try.f3 false true false false) := by
  refine returnsInHanded_of_change_sized (C := Try.checked) own started (by kernel_rfl) Try.func3
    (ChangeSpec.witness6 (enc := enc) (C := Try.checked) false ⟨#[], #[.slice none 0 0, .slice none 0 0, .int .i64 0, .slice none 0 0, .int .i64 0, .int .i64 0, .int .i64 0, .int .i64 0], []⟩ 8 (by kernel_rfl) (by kernel_rfl) (by kernel_rfl) (by kernel_rfl)) ?_
  intro W base args ds gs before hval0 hW hcnd hsz0 _
  have hval : ∀ (j : Nat) t v, Try.f3.params[j]? = some t → args[j]? = some v → Value.okWide Try.prog W .any base t v := hval0
  have hW' := hW
  obtain ⟨p, q, hA0, hV, rfl, hfz, hnd⟩ := hW
  have hA : DataW.TrodAll enc Try.prog W 0 (fun _ => true) true Try.f3.params.toList args.toList ds p := hA0
  rw [Try.params3] at hA hval
  obtain ⟨v0, vs0, d0, ds0, p0, q0, hargs, rfl, rfl, h0, r0⟩ := trodAll_cons hA
  obtain ⟨v1, vs1, d1, ds1, p1, q1, rfl, rfl, rfl, h1, r1⟩ := trodAll_cons r0
  obtain ⟨v2, vs2, d2, ds2, p2, q2, rfl, rfl, rfl, h2, r2⟩ := trodAll_cons r1
  obtain ⟨v3, vs3, d3, ds3, p3, q3, rfl, rfl, rfl, h3, r3⟩ := trodAll_cons r2
  obtain ⟨v4, vs4, d4, ds4, p4, q4, rfl, rfl, rfl, h4, r4⟩ := trodAll_cons r3
  obtain ⟨v5, vs5, d5, ds5, p5, q5, rfl, rfl, rfl, h5, r5⟩ := trodAll_cons r4
  obtain ⟨v6, vs6, d6, ds6, p6, q6, rfl, rfl, rfl, h6, r6⟩ := trodAll_cons r5
  obtain ⟨v7, vs7, d7, ds7, p7, q7, rfl, rfl, rfl, h7, r7⟩ := trodAll_cons r6
  obtain ⟨rfl, rfl, rfl⟩ := trodAll_nil r7
  obtain rfl : args = #[v0, v1, v2, v3, v4, v5, v6, v7] := by cases args; simp_all
  obtain ⟨rfl, rfl⟩ := trodVars_none hV
  have k0 := h0
  have lt0 : ∀ x ∈ p0, x.block < W.heap.size := by obtain ⟨m, hm⟩ := k0; exact DataW.trod_lt m _ _ _ hm
  obtain ⟨z0, zl0, zc0, rfl⟩ := okWide_slice Try.underlying22 (hval 0 22 v0 rfl rfl)
  obtain ⟨n0, e0⟩ := h0
  have e0' : DataW.trod enc Try.prog W 0 (fun _ => true) true n0 22 [.slice z0 zl0 zc0] = some (d0, p0) := by simpa [Value.cells] using e0
  obtain ⟨v0, hz0⟩ : ∃ v, v = Value.slice z0 zl0 zc0 := ⟨_, rfl⟩
  rw [← hz0] at e0' k0 hval hW' ⊢
  clear hz0
  obtain ⟨l0, ⟨A0, c0, hv0, hc0, hr0⟩, hl0, hq0⟩ := (Open.opens_slice Try.underlying22 (by kernel_rfl) rfl (Open.opens_int Try.underlying3)) _ _ _ e0'
  have hv0' : [v0] = [Value.slice A0 l0.length c0] := hv0
  obtain rfl := (List.cons.inj hv0').1
  have k1 := h1
  have lt1 : ∀ x ∈ p1, x.block < W.heap.size := by obtain ⟨m, hm⟩ := k1; exact DataW.trod_lt m _ _ _ hm
  obtain ⟨z1, zl1, zc1, rfl⟩ := okWide_slice Try.underlying22 (hval 1 22 v1 rfl rfl)
  obtain ⟨n1, e1⟩ := h1
  have e1' : DataW.trod enc Try.prog W 0 (fun _ => true) true n1 22 [.slice z1 zl1 zc1] = some (d1, p1) := by simpa [Value.cells] using e1
  obtain ⟨v1, hz1⟩ : ∃ v, v = Value.slice z1 zl1 zc1 := ⟨_, rfl⟩
  rw [← hz1] at e1' k1 hval hW' ⊢
  clear hz1
  obtain ⟨l1, ⟨A1, c1, hv1, hc1, hr1⟩, hl1, hq1⟩ := (Open.opens_slice Try.underlying22 (by kernel_rfl) rfl (Open.opens_int Try.underlying3)) _ _ _ e1'
  have hv1' : [v1] = [Value.slice A1 l1.length c1] := hv1
  obtain rfl := (List.cons.inj hv1').1
  have k2 := h2
  have lt2 : ∀ x ∈ p2, x.block < W.heap.size := by obtain ⟨m, hm⟩ := k2; exact DataW.trod_lt m _ _ _ hm
  obtain ⟨a2, rfl, rfl, rfl, w2⟩ := open_int Try.underlying3 (hval 2 3 v2 rfl rfl) h2
  have k3 := h3
  have lt3 : ∀ x ∈ p3, x.block < W.heap.size := by obtain ⟨m, hm⟩ := k3; exact DataW.trod_lt m _ _ _ hm
  obtain ⟨z3, zl3, zc3, rfl⟩ := okWide_slice Try.underlying22 (hval 3 22 v3 rfl rfl)
  obtain ⟨n3, e3⟩ := h3
  have e3' : DataW.trod enc Try.prog W 0 (fun _ => true) true n3 22 [.slice z3 zl3 zc3] = some (d3, p3) := by simpa [Value.cells] using e3
  obtain ⟨v3, hz3⟩ : ∃ v, v = Value.slice z3 zl3 zc3 := ⟨_, rfl⟩
  rw [← hz3] at e3' k3 hval hW' ⊢
  clear hz3
  obtain ⟨l3, ⟨A3, c3, hv3, hc3, hr3⟩, hl3, hq3⟩ := (Open.opens_slice Try.underlying22 (by kernel_rfl) rfl (Open.opens_int Try.underlying3)) _ _ _ e3'
  have hv3' : [v3] = [Value.slice A3 l3.length c3] := hv3
  obtain rfl := (List.cons.inj hv3').1
  have k4 := h4
  have lt4 : ∀ x ∈ p4, x.block < W.heap.size := by obtain ⟨m, hm⟩ := k4; exact DataW.trod_lt m _ _ _ hm
  obtain ⟨a4, rfl, rfl, rfl, w4⟩ := open_int Try.underlying3 (hval 4 3 v4 rfl rfl) h4
  have k5 := h5
  have lt5 : ∀ x ∈ p5, x.block < W.heap.size := by obtain ⟨m, hm⟩ := k5; exact DataW.trod_lt m _ _ _ hm
  obtain ⟨a5, rfl, rfl, rfl, w5⟩ := open_int Try.underlying3 (hval 5 3 v5 rfl rfl) h5
  have k6 := h6
  have lt6 : ∀ x ∈ p6, x.block < W.heap.size := by obtain ⟨m, hm⟩ := k6; exact DataW.trod_lt m _ _ _ hm
  obtain ⟨a6, rfl, rfl, rfl, w6⟩ := open_int Try.underlying3 (hval 6 3 v6 rfl rfl) h6
  have k7 := h7
  have lt7 : ∀ x ∈ p7, x.block < W.heap.size := by obtain ⟨m, hm⟩ := k7; exact DataW.trod_lt m _ _ _ hm
  obtain ⟨a7, rfl, rfl, rfl, w7⟩ := open_int Try.underlying3 (hval 7 3 v7 rfl rfl) h7
  clear hA0 hval0 hsz0
  obtain ⟨k, hk⟩ := Pure.FnPairsChangeOfAll l0 l1 a2 l3 a4 a5 a6 a7 hl0 hl1 hl3
  refine (G.laws_FnPairsChangeOfAll.calls k A0 c0 l0 A1 c1 l1 a2 A3 c3 l3 a4 a5 a6 a7 true W hr0 hc0 hr1 hc1 hr3 hc3 hk).mono fun e W' ⟨he, bel0⟩ => ?_
  have bel : Below W.heap.size W W' := bel0
  subst he
  exact ⟨_, rfl, _, _, _, [], _, [], hW', trodAll_mk1 (shut_bool Try.underlying4 _), (trodAll_cons_mk (Below.trod laidOut (by kernel_rfl) (of_decide_eq_true (by kernel_rfl)) k0 bel lt0) (trodAll_cons_mk (Below.trod laidOut (by kernel_rfl) (of_decide_eq_true (by kernel_rfl)) k1 bel lt1) (trodAll_cons_mk (Below.trod laidOut (by kernel_rfl) (of_decide_eq_true (by kernel_rfl)) k2 bel lt2) (trodAll_cons_mk (Below.trod laidOut (by kernel_rfl) (of_decide_eq_true (by kernel_rfl)) k3 bel lt3) (trodAll_cons_mk (Below.trod laidOut (by kernel_rfl) (of_decide_eq_true (by kernel_rfl)) k4 bel lt4) (trodAll_cons_mk (Below.trod laidOut (by kernel_rfl) (of_decide_eq_true (by kernel_rfl)) k5 bel lt5) (trodAll_cons_mk (Below.trod laidOut (by kernel_rfl) (of_decide_eq_true (by kernel_rfl)) k6 bel lt6) (trodAll_cons_mk (Below.trod laidOut (by kernel_rfl) (of_decide_eq_true (by kernel_rfl)) k7 bel lt7) trodAll_mk0)))))))), rfl, bel.frame _, fun h => by cases h⟩
theorem over : Rows.fnPairsChangeOfAllRow.holds Try.pinned (OpenSpec.ofChange Rows.fnPairsChangeOfAllSpec) :=
  OpenClaim.holds_of_wide 3 Try.f3 rfl rfl rfl rfl rfl rfl rfl ⟨rfl, rfl, rfl, rfl, rfl⟩ rfl rfl rfl rfl rfl (by kernel_rfl) Try.func3 (by kernel_rfl)
    (of_decide_eq_true (by kernel_rfl)) (by unfold Func.isWrapper; first | (rw [if_pos (by decide +kernel)]; kernel_rfl) | (rw [if_neg (by decide +kernel)]; exact ⟨rfl, rfl⟩))
    (fun os started H enc _ => lifted os started H enc)
theorem proved : Rows.FnPairsChangeOfAllSaid := over
#print axioms proved
end Go.Proofs.Ytmejodmokogblaa.fnPairsChangeOfAll
namespace Go.Proofs.Ytmejodmokogblaa
/-- The row, under a short name, for the claim. -/
theorem fnPairsChangeOfAll_holds : Rows.FnPairsChangeOfAllSaid := fnPairsChangeOfAll.proved
end Go.Proofs.Ytmejodmokogblaa

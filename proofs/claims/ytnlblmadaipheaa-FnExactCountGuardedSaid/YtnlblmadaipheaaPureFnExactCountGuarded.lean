/- The law FnExactCountGuarded returns true for all numbers of guards and captives: where both are in 0..8 and not both 0, each pair of numbers is computed; elsewhere both functions return nothing.
   Conditions: none beside the statement's own. -/
import Derived.Test.YtnlblmadaipheaaPFnExactCountGuardedx1
namespace Go.Proofs.Ytnlblmadaipheaa.Pure
open Go.RowKit Go.Proofs.Ytnlblmadaipheaa.PFnExactCountGuarded Go.Proofs.YtnlblmadaipheaaW.PrintWords Go.Proofs.YtnlblmadaipheaaW.PrintLast

theorem inside : ∀ a : Fin 9, ∀ b : Fin 9, laws_FnExactCountGuarded.f 200 (a.val : Int) (b.val : Int) = some true := by decide +kernel

theorem FnExactCountGuarded : laws_FnExactCountGuarded.Pure := by
  intro a b _ _
  by_cases ha : 0 ≤ a ∧ a ≤ 8
  · by_cases hb : 0 ≤ b ∧ b ≤ 8
    · refine ⟨200, ?_⟩
      have h := inside ⟨a.toNat, by omega⟩ ⟨b.toNat, by omega⟩
      simp only [Int.toNat_of_nonneg ha.1, Int.toNat_of_nonneg hb.1] at h
      exact h
    · refine ⟨0, ?_⟩
      unfold laws_FnExactCountGuarded.f spec_CountGuarded.f impl_CountGuarded.f spec_cuSides.f impl_guarded_isOk.f spec_l1In.f impl_in.f
      by_cases h1 : 0 ≤ b
      · have h2 : ¬ b ≤ 8 := fun h => hb ⟨h1, h⟩
        simp [ha.1, ha.2, h1, h2]
      · simp [ha.1, ha.2, h1]
  · refine ⟨0, ?_⟩
    unfold laws_FnExactCountGuarded.f spec_CountGuarded.f impl_CountGuarded.f spec_cuSides.f impl_guarded_isOk.f spec_l1In.f impl_in.f
    by_cases h1 : 0 ≤ a
    · have h2 : ¬ a ≤ 8 := fun h => ha ⟨h1, h⟩
      simp [h1, h2]
    · simp [h1]

end Go.Proofs.Ytnlblmadaipheaa.Pure

/- The law FnExactIsIsles returns true for all arguments: both functions ask whether the numbers lie in 1..3, 1..3 and 0..2.
   Conditions: none. -/
import Derived.Test.YtnlblmadaipheaaGx0
import Derived.Test.YtnlblmadaipheaaGx1
namespace Go.Proofs.Ytnlblmadaipheaa.Pure
open Go.RowKit Go.Proofs.Ytnlblmadaipheaa.G Go.Proofs.YtnlblmadaipheaaW.PrintWords

theorem FnExactIsIsles (a b c : Int) : laws_FnExactIsIsles.f a b c = some true := by
  have e1 : ∀ x y z : Int, spec_l1In.f x y z = some (decide (y ≤ x) && decide (x ≤ z)) := fun x y z => by unfold spec_l1In.f; by_cases h : y ≤ x <;> simp [h]
  have e2 : ∀ x y z : Int, impl_in.f x y z = some (decide (y ≤ x) && decide (x ≤ z)) := fun x y z => by unfold impl_in.f; by_cases h : y ≤ x <;> simp [h]
  unfold laws_FnExactIsIsles.f laws_toIsles.f spec_IsIsles.f spec_isGood.f impl_IsIsles.f
  simp only [e1, e2, Option.bind_some]
  cases (decide (1 ≤ a) && decide (a ≤ 3)) <;> cases (decide (1 ≤ b) && decide (b ≤ 3)) <;> simp

end Go.Proofs.Ytnlblmadaipheaa.Pure

/- The law FnExactIsCompany returns true for all arguments: both functions ask whether each number lies in 1..4.
   Conditions: none. -/
import Derived.Test.YtnlblmadaipheaaGx0
import Derived.Test.YtnlblmadaipheaaGx1
namespace Go.Proofs.Ytnlblmadaipheaa.Pure
open Go.RowKit Go.Proofs.Ytnlblmadaipheaa.G Go.Proofs.YtnlblmadaipheaaW.PrintWords

theorem FnExactIsCompany (a b : Int) : laws_FnExactIsCompany.f a b = some true := by
  have e1 : ∀ x y z : Int, spec_l1In.f x y z = some (decide (y ≤ x) && decide (x ≤ z)) := fun x y z => by unfold spec_l1In.f; by_cases h : y ≤ x <;> simp [h]
  have e2 : ∀ x y z : Int, impl_in.f x y z = some (decide (y ≤ x) && decide (x ≤ z)) := fun x y z => by unfold impl_in.f; by_cases h : y ≤ x <;> simp [h]
  unfold laws_FnExactIsCompany.f laws_toCompany.f spec_IsCompany.f spec_cuGood.f impl_IsCompany.f
  simp only [e1, e2, Option.bind_some]
  cases (decide (1 ≤ a) && decide (a ≤ 4)) <;> simp

end Go.Proofs.Ytnlblmadaipheaa.Pure

/- What the printed functions on lists of ints come to: sizes, copies, comparisons, bounds.
   Conditions: stated with each: lengths, and more rounds than the list is long. -/
import Derived.Test.YtokfpjebnkfccaaPureAIc
import Derived.Test.YtokfpjebnkfccaaGIcx1
import Derived.Test.YtokfpjebnkfccaaGIcx3
namespace Go.Proofs.Ytokfpjebnkfccaa.Pure
open Go.RowKit Go.Proofs.Ytokfpjebnkfccaa.G Go.Proofs.YtokfpjebnkfccaaW.PrintWords

theorem l1In_ev (a b c : Int) : spec_l1In.f a b c = some (decide (b ≤ a) && decide (a ≤ c)) := by
  unfold spec_l1In.f
  by_cases h : b ≤ a <;> simp [h]
theorem in_ev (a b c : Int) : impl_in.f a b c = some (decide (b ≤ a) && decide (a ≤ c)) := by
  unfold impl_in.f
  by_cases h : b ≤ a <;> simp [h]

end Go.Proofs.Ytokfpjebnkfccaa.Pure

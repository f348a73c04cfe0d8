/- The law FnExactIsParty returns true for all arguments: both functions say the same of the copy of the party, and the copy stays.
   Conditions: the list is no longer than any Go slice. -/
import Derived.Test.YtlbmbofhbficgaaPureParty
import Derived.Test.YtlbmbofhbficgaaGx1
import Derived.Test.YtlbmbofhbficgaaGx2
namespace Go.Proofs.Ytlbmbofhbficgaa.Pure
open Go.RowKit Go.Proofs.Ytlbmbofhbficgaa.G Go.Proofs.YtlbmbofhbficgaaW.PrintWords

theorem FnExactIsParty (l0_0 : List Int) (a0_1 : Int) (h0_0 : l0_0.length ≤ 9223372036854775807) : ∃ k, laws_FnExactIsParty.f k l0_0 a0_1 = some true := by
  refine ⟨l0_0.length + 1, ?_⟩
  unfold laws_FnExactIsParty.f spec_IsParty.f
  rw [szParty_ev l0_0 a0_1 _ h0_0 (by omega) (by omega), bindsome]
  by_cases c : (1048576 : Int) < l0_0.length
  · rw [if_pos c]; rfl
  · rw [if_neg c, if_neg (by omega), toParty_ev l0_0 a0_1 (by omega) _ (by omega), bindsome]
    simp only
    rw [paGood_ev l0_0 a0_1 (by omega) _ (by omega), bindsome, bindsome, bindsome, implIsParty_ev, bindsome]
    simp [eqParty_ev l0_0 l0_0 a0_1 a0_1 (by omega) (l0_0.length + 1) (by omega)]

end Go.Proofs.Ytlbmbofhbficgaa.Pure
